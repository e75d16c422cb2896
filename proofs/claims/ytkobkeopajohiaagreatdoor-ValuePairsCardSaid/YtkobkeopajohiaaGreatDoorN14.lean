/-
  CONTRACT of the reference's Compare.
-/
import Derived.Test.YtkobkeopajohiaaGreatDoorND
import Derived.Test.YtkobkeopajohiaaGreatDoorGG
import Derived.Deep.RegionHeld3
namespace Go.Proofs.YtkobkeopajohiaaGreatDoor
open Go.RowKit Go.Lib

set_option maxHeartbeats 1600000 in
set_option maxRecDepth 100000 in
theorem refCmp_nums (ka kb n m r : Int) (s t : ByteArray) (w : World) (hk : (ka = 1 ∧ kb = 1) ∨ (ka = 0 ∧ kb = 1) ∨ (ka = 1 ∧ kb = 0) ∨ (ka = 0 ∧ kb = 0) ∨ (ka = 3 ∧ kb = 3) ∨ (ka = 0 ∧ kb = 3) ∨ (ka = 3 ∧ kb = 0)) (hR : (if n < m then (-1 : Int) else if m < n then 1 else 0) = r) :
    Calls Tryz.prog 22 #[.agg #[.int .i64 ka, .int .i64 n, .string s], .agg #[.int .i64 kb, .int .i64 m, .string t]] w fun e w' => e = .returned (.int .i64 r) ∧ Below w.heap.size w w' := by
  rcases less_num n m r hR with ⟨h, rfl⟩ | ⟨h, rfl⟩ | ⟨rfl, rfl⟩
  all_goals
    clear hR
    rcases hk with ⟨rfl, rfl⟩ | ⟨rfl, rfl⟩ | ⟨rfl, rfl⟩ | ⟨rfl, rfl⟩ | ⟨rfl, rfl⟩ | ⟨rfl, rfl⟩ | ⟨rfl, rfl⟩
    all_goals
      go_enter Tryz.func22, Tryz.ntmps22
      go_wp2
      go_ret
      exact ⟨rfl, by go_grown⟩
set_option maxHeartbeats 1600000 in
set_option maxRecDepth 100000 in
theorem refCmp_kinds (ka kb n m r : Int) (s t : ByteArray) (w : World) (hk : (ka = 1 ∧ kb = 2 ∧ r = -1) ∨ (ka = 1 ∧ kb = 3 ∧ r = -1) ∨ (ka = 2 ∧ kb = 3 ∧ r = -1) ∨ (ka = 2 ∧ kb = 1 ∧ r = 1) ∨ (ka = 3 ∧ kb = 1 ∧ r = 1) ∨ (ka = 3 ∧ kb = 2 ∧ r = 1)) :
    Calls Tryz.prog 22 #[.agg #[.int .i64 ka, .int .i64 n, .string s], .agg #[.int .i64 kb, .int .i64 m, .string t]] w fun e w' => e = .returned (.int .i64 r) ∧ Below w.heap.size w w' := by
  rcases hk with ⟨rfl, rfl, rfl⟩ | ⟨rfl, rfl, rfl⟩ | ⟨rfl, rfl, rfl⟩ | ⟨rfl, rfl, rfl⟩ | ⟨rfl, rfl, rfl⟩ | ⟨rfl, rfl, rfl⟩
  all_goals
    go_enter Tryz.func22, Tryz.ntmps22
    go_wp2
    go_ret
    exact ⟨rfl, by go_grown⟩
/-- what the region of the two texts reads -/
abbrev CmpS (w : World) (h : Nat) (s t : ByteArray) (w' : World) : Prop :=
  w'.cell? ⟨h, 2, none⟩ = some (.string s) ∧ w'.cell? ⟨h + 1, 2, none⟩ = some (.string t) ∧ Hid (h + 1 < w'.heap.size) ∧ Hid (Below w.heap.size w w')
theorem CmpS.below {w : World} {h : Nat} {s t : ByteArray} {w1 w2 : World} (hS : CmpS w h s t w1) (hb : Below w1.heap.size w1 w2) : CmpS w h s t w2 := by
  obtain ⟨h0, h1, h2, h3⟩ := hS
  have l1 : h + 1 < w1.heap.size := h2.out
  have l0 : h < w1.heap.size := by omega
  exact ⟨(hb.cell l0).trans h0, (hb.cell l1).trans h1, Lib.hid (Nat.lt_of_lt_of_le l1 hb.size), Lib.hid (h3.out.trans (hb.mono h3.out.size))⟩
theorem CmpS.drew {w : World} {h : Nat} {s t : ByteArray} {w1 : World} (hS : CmpS w h s t w1) : CmpS w h s t w1.drew := hS.below ((Below.refl _ _).drew)
theorem str_eq (a b : ByteArray) : (a.toList == b.toList) = decide (a.data.toList = b.data.toList) := by
  rw [Lib.toList_data, Lib.toList_data]
  rw [Bool.eq_iff_iff]; simp
theorem str_less (a b : ByteArray) : Op.bytesLess a.toList b.toList = Op.bytesLess a.data.toList b.data.toList := by rw [Lib.toList_data, Lib.toList_data]
set_option maxHeartbeats 3200000 in
set_option maxRecDepth 100000 in
theorem refCmp_texts (ka kb n m r : Int) (s t : ByteArray) (w : World) (hs : s.size ≤ 4294967296) (ht : t.size ≤ 4294967296) (hk : (ka = 2 ∧ kb = 2) ∨ (ka = 0 ∧ kb = 2) ∨ (ka = 2 ∧ kb = 0)) (hR : Lib.compareBytes (great s).data.toList (great t).data.toList = r) :
    Calls Tryz.prog 22 #[.agg #[.int .i64 ka, .int .i64 n, .string s], .agg #[.int .i64 kb, .int .i64 m, .string t]] w fun e w' => e = .returned (.int .i64 r) ∧ Below w.heap.size w w' := by
  have HGs := Lib.hid fun w => refGreat_any s w hs
  have HGt := Lib.hid fun w => refGreat_any t w ht
  rw [Tab.cmp_less] at hR
  have hways : (((great s).toList == (great t).toList) = true ∧ r = 0) ∨ (((great s).toList == (great t).toList) = false ∧ Op.bytesLess (great s).toList (great t).toList = true ∧ r = -1) ∨ (((great s).toList == (great t).toList) = false ∧ Op.bytesLess (great s).toList (great t).toList = false ∧ r = 1) := by
    rw [str_eq, str_less]
    by_cases h1 : (great s).data.toList = (great t).data.toList
    · rw [if_pos h1] at hR
      exact .inl ⟨decide_eq_true h1, hR.symm⟩
    · rw [if_neg h1] at hR
      cases h2 : Op.bytesLess (great s).data.toList (great t).data.toList with
      | true => rw [h2] at hR; exact .inr (.inl ⟨decide_eq_false h1, rfl, by simpa using hR.symm⟩)
      | false => rw [h2] at hR; exact .inr (.inr ⟨decide_eq_false h1, rfl, by simpa using hR.symm⟩)
  clear hR hs ht
  have hmx : max (2 : Int) 1 = 2 := by decide
  generalize great s = gs at *
  generalize great t = gt at *
  rcases hk with ⟨rfl, rfl⟩ | ⟨rfl, rfl⟩ | ⟨rfl, rfl⟩
  all_goals
    have hS : CmpS w w.heap.size s t ((w.alloc (.cells #[.int .i64 2, .int .i64 n, .string s] 28)).alloc (.cells #[.int .i64 2, .int .i64 m, .string t] 28)) := by
      refine ⟨?_, ?_, Lib.hid (by simp), Lib.hid (((Below.refl _ _).alloc (Nat.le_refl _) _).alloc (by simp) _)⟩
      · rw [World.cell?_alloc_past _ _ _ (by simp), World.cell?_alloc_at _ _ _ _ rfl]; rfl
      · rw [World.cell?_alloc_at _ _ _ _ (by simp)]; rfl
    rcases hways with ⟨h1, rfl⟩ | ⟨h1, h2, rfl⟩ | ⟨h1, h2, rfl⟩
    all_goals
      go_enter Tryz.func22, Tryz.ntmps22
      go_wp2
      go_region_held3 (fun w' => w'.cell? ⟨w.heap.size, 2, none⟩ = some (.string s) ∧ w'.cell? ⟨w.heap.size + 1, 2, none⟩ = some (.string t) ∧ Hid (w.heap.size + 1 < w'.heap.size) ∧ Hid (Below w.heap.size w w'))
        (first | exact CmpS.drew ‹CmpS w w.heap.size s t _› | exact CmpS.below ‹CmpS w w.heap.size s t _› ‹Below _ _ _›)
        (first
          | (go_at_call_of 90 (Value.string s); refine (HGs.out _).mono ?_; rintro e w2 ⟨rfl, hb⟩)
          | (go_at_call_of 90 (Value.string t); refine (HGt.out _).mono ?_; rintro e w2 ⟨rfl, hb⟩))
      all_goals go_wp2
      all_goals go_ret
      all_goals exact ⟨rfl, (‹CmpS w w.heap.size s t w2›).2.2.2.out⟩
theorem refCompare_any (a b : V) (w : World) (ha : a.short 4294967296) (hb : b.short 4294967296) (fa : a.failed = (0, false)) (fb : b.failed = (0, false)) :
    Calls Tryz.prog 22 #[a.tell, b.tell] w fun e w' => e = .returned (.int .i64 (a.cmp b)) ∧ Below w.heap.size w w' := by
  rcases a with n | s | p | n | _ <;> rcases b with m | t | q | m | _
  all_goals first | (exfalso; simp [V.failed] at fa; done) | (exfalso; simp [V.failed] at fb; done) | skip
  · exact refCmp_nums 1 1 n m _ _ _ w (by simp) rfl
  · exact refCmp_kinds 1 2 n 0 _ _ _ w (by simp [V.cmp, cmpOf, V.as, V.rank])
  · exact refCmp_kinds 1 3 n _ _ _ _ w (by simp [V.cmp, cmpOf, V.as, V.rank])
  · exact refCmp_nums 1 0 n 0 _ _ _ w (by simp) rfl
  · exact refCmp_kinds 2 1 0 m _ _ _ w (by simp [V.cmp, cmpOf, V.as, V.rank])
  · exact refCmp_texts 2 2 0 0 _ s t w ha hb (by simp) rfl
  · exact refCmp_kinds 2 3 0 _ _ _ _ w (by simp [V.cmp, cmpOf, V.as, V.rank])
  · exact refCmp_texts 2 0 0 0 _ s ByteArray.empty w ha (by decide) (by simp) rfl
  · exact refCmp_kinds 3 1 _ m _ _ _ w (by simp [V.cmp, cmpOf, V.as, V.rank])
  · exact refCmp_kinds 3 2 _ 0 _ _ _ w (by simp [V.cmp, cmpOf, V.as, V.rank])
  · exact refCmp_nums 3 3 _ _ _ _ _ w (by simp) (by cases p <;> cases q <;> rfl)
  · exact refCmp_nums 3 0 _ 0 _ _ _ w (by simp) (by cases p <;> rfl)
  · exact refCmp_nums 0 1 0 m _ _ _ w (by simp) rfl
  · exact refCmp_texts 0 2 0 0 _ ByteArray.empty t w (by decide) hb (by simp) rfl
  · exact refCmp_nums 0 3 0 _ _ _ _ w (by simp) (by cases q <;> rfl)
  · exact refCmp_nums 0 0 0 0 _ _ _ w (by simp) rfl
end Go.Proofs.YtkobkeopajohiaaGreatDoor
