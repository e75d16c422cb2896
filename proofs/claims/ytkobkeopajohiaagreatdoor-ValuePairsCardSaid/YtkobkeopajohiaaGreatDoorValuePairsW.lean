/-
  THE WALK of the law ValuePairs: two values are joined, compared, added, as the document's.
-/
import Derived.Test.YtkobkeopajohiaaGreatDoorNE
import Derived.Test.YtkobkeopajohiaaGreatDoorGH
import Derived.Test.YtkobkeopajohiaaGreatDoorQQ
import Derived.StillTailTactics
import Derived.Deep.DeepCutAuto
namespace Go.Proofs.YtkobkeopajohiaaGreatDoor
open Go.RowKit Go.Lib

theorem cut_size (p : P) (n : Nat) : (p.cut n).s.size ≤ n := by
  rw [size_eq]
  show (p.s.data.toList.take n).length ≤ n
  rw [List.length_take]; omega
/-- what the regions of the law read: two values as plain data -/
abbrev PairS (w5 : World) (x y : Nat) (k1 b1 k2 b2 : Int) (s1 s2 : ByteArray) (w' : World) : Prop :=
  w'.cell? ⟨x, 0, none⟩ = some (.int .i64 k1) ∧ w'.cell? ⟨x, 1, none⟩ = some (.int .i64 b1) ∧ w'.cell? ⟨x, 2, none⟩ = some (.string s1) ∧
  w'.cell? ⟨y, 0, none⟩ = some (.int .i64 k2) ∧ w'.cell? ⟨y, 1, none⟩ = some (.int .i64 b2) ∧ w'.cell? ⟨y, 2, none⟩ = some (.string s2) ∧ Hid (x < w5.heap.size) ∧ Hid (y < w5.heap.size) ∧ Hid (Below w5.heap.size w5 w')
theorem PairS.below {w5 : World} {x y : Nat} {k1 b1 k2 b2 : Int} {s1 s2 : ByteArray} {w1 w2 : World} (hS : PairS w5 x y k1 b1 k2 b2 s1 s2 w1) (hb : Below w1.heap.size w1 w2) : PairS w5 x y k1 b1 k2 b2 s1 s2 w2 := by
  obtain ⟨h0, h1, h2, h3, h4, h5, h6, h7, h8⟩ := hS
  have hx : x < w1.heap.size := Nat.lt_of_lt_of_le h6.out h8.out.size
  have hy : y < w1.heap.size := Nat.lt_of_lt_of_le h7.out h8.out.size
  exact ⟨(hb.cell hx).trans h0, (hb.cell hx).trans h1, (hb.cell hx).trans h2, (hb.cell hy).trans h3, (hb.cell hy).trans h4, (hb.cell hy).trans h5, h6, h7, Lib.hid (h8.out.trans (hb.mono h8.out.size))⟩
theorem PairS.drew {w5 : World} {x y : Nat} {k1 b1 k2 b2 : Int} {s1 s2 : ByteArray} {w1 : World} (hS : PairS w5 x y k1 b1 k2 b2 s1 s2 w1) : PairS w5 x y k1 b1 k2 b2 s1 s2 w1.drew := hS.below ((Below.refl _ _).drew)
theorem of_short' (p : P) (n : Nat) (h : p.s.size ≤ n) : p.of.short n := by
  obtain ⟨k, m, s⟩ := p
  unfold P.of
  repeat' split
  all_goals first | exact trivial | exact h
/-- two blocks of three cells, the last cell of each stored anew -/
theorem pair_set {A : World} {h : Nat} {k m k' m' : Int} {s s' t t' : ByteArray} (hA : ∀ j, A.cell? ⟨h, j, none⟩ = (#[Value.int .i64 k, .int .i64 m, .string s])[j]?) (hB : ∀ j, A.cell? ⟨h + 1, j, none⟩ = (#[Value.int .i64 k', .int .i64 m', .string s'])[j]?) :
    (∀ j, ((A.setCell ⟨h, 2, none⟩ (.string t)).setCell ⟨h + 1, 2, none⟩ (.string t')).drew.cell? ⟨h, j, none⟩ = (#[Value.int .i64 k, .int .i64 m, .string t])[j]?) ∧
    (∀ j, ((A.setCell ⟨h, 2, none⟩ (.string t)).setCell ⟨h + 1, 2, none⟩ (.string t')).drew.cell? ⟨h + 1, j, none⟩ = (#[Value.int .i64 k', .int .i64 m', .string t'])[j]?) := by
  refine ⟨fun j => ?_, fun j => ?_⟩
  · show ((A.setCell ⟨h, 2, none⟩ (.string t)).setCell ⟨h + 1, 2, none⟩ (.string t')).cell? ⟨h, j, none⟩ = _
    rw [World.cell?_setCell_other _ _ _ _ (by simp)]
    by_cases e : j = 2
    · subst e; rw [World.cell?_setCell_same _ _ _ (hA 2)]; rfl
    · rw [World.cell?_setCell_other _ _ _ _ (fun h => e (Addr.mk.inj h).2.1.symm), hA j]
      match j, e with
      | 0, _ => rfl
      | 1, _ => rfl
      | 2, e => exact absurd rfl e
      | j + 3, _ => rfl
  · show ((A.setCell ⟨h, 2, none⟩ (.string t)).setCell ⟨h + 1, 2, none⟩ (.string t')).cell? ⟨h + 1, j, none⟩ = _
    by_cases e : j = 2
    · subst e; rw [World.cell?_setCell_same _ _ _ (u := .string s') (by rw [World.cell?_setCell_other _ _ _ _ (by simp)]; exact hB 2)]; rfl
    · rw [World.cell?_setCell_other _ _ _ _ (fun h => e (Addr.mk.inj h).2.1.symm), World.cell?_setCell_other _ _ _ _ (by simp), hB j]
      match j, e with
      | 0, _ => rfl
      | 1, _ => rfl
      | 2, e => exact absurd rfl e
      | j + 3, _ => rfl
set_option maxHeartbeats 6400000 in
set_option maxRecDepth 100000 in
theorem valuePairs_main (p q : P) (op : Int) (w : World) (hM : GM w) (hP : GP w) (hU : Lib.Utf8Tabs 4 5 w) (h6 : 5 < w.heap.size) :
    Calls Tryz.prog 4 #[p.val, q.val, .int .i64 op] w fun e w' => e = .returned (.bool true) ∧ Below w.heap.size w w' := by
  have HAW := Lib.hid fun w hM => awake15 w hM
  have hcp : ∀ w, Calls Tryz.prog 7 #[.string p.s, .int .i64 2000] w fun e w'' => e = .returned (.string ⟨(p.s.data.toList.take 2000).toArray⟩) ∧ w'' = w := fun w => (lawCut_any p.s ⟨(p.s.data.toList.take 2000).toArray⟩ 2000 w rfl).mono fun e w' h => ⟨h.1, h.2.symm⟩
  have hcq : ∀ w, Calls Tryz.prog 7 #[.string q.s, .int .i64 2000] w fun e w'' => e = .returned (.string ⟨(q.s.data.toList.take 2000).toArray⟩) ∧ w'' = w := fun w => (lawCut_any q.s ⟨(q.s.data.toList.take 2000).toArray⟩ 2000 w rfl).mono fun e w' h => ⟨h.1, h.2.symm⟩
  have HCp := Lib.hid hcp
  have HCq := Lib.hid hcq
  have HMp := Lib.hid fun w hU h7 => lawMade_any (p.cut 2000) w hU h7 (by have := cut_size p 2000; omega)
  have HMq := Lib.hid fun w hU h7 => lawMade_any (q.cut 2000) w hU h7 (by have := cut_size q 2000; omega)
  have ga := of_good (p.cut 2000)
  have gb := of_good (q.cut 2000)
  have sa : (p.cut 2000).of.short 2000 := of_short' _ _ (cut_size p 2000)
  have sb : (q.cut 2000).of.short 2000 := of_short' _ _ (cut_size q 2000)
  generalize (p.cut 2000).of = a at *
  generalize (q.cut 2000).of = b at *
  clear hcp hcq
  obtain ⟨k1, b1, s1, ea⟩ := tell_form a
  obtain ⟨k2, b2, s2, eb⟩ := tell_form b
  rw [ea] at HMp
  rw [eb] at HMq
  have fa : a.short 4294967 := by cases a <;> first | exact trivial | exact Nat.le_trans sa (by decide)
  have fb : b.short 4294967 := by cases b <;> first | exact trivial | exact Nat.le_trans sb (by decide)
  have fa2 : a.short 4294967296 := by cases a <;> first | exact trivial | exact Nat.le_trans sa (by decide)
  have fb2 : b.short 4294967296 := by cases b <;> first | exact trivial | exact Nat.le_trans sb (by decide)
  have HJ := Lib.hid fun w hP => join_any a b w hP ga gb fa fb
  have HRJ := Lib.hid fun w => refJoin_any a b w ga gb fa fb
  have HTJ := Lib.hid fun w => told_any (joinV a b) w
  have HC := Lib.hid fun w => cmp_any a b w fa2 fb2
  have HRC := Lib.hid fun w (h : a.failed = (0, false) ∧ b.failed = (0, false)) => refCompare_any a b w fa2 fb2 h.1 h.2
  have HH := Lib.hid fun w (h : 0 ≤ op ∧ op ≤ 5) => hold_any op a b w fa2 fb2 h.1 h.2
  have HRH := Lib.hid fun w (h : 0 ≤ op ∧ op ≤ 5) => refHold_any op a b w fa2 fb2 h.1 h.2
  have HTH := Lib.hid fun w => told_any (holdV op a b) w
  have HA := Lib.hid fun w hM (h : 0 ≤ op ∧ op ≤ 4) => arith_any op a b w hM fa fb ga gb h.1 h.2
  have HRA := Lib.hid fun w (h : 0 ≤ op ∧ op ≤ 4) => refArith_any op a b w fa fb ga gb h.1 h.2
  have HTA := Lib.hid fun w => told_any (arithV op a b) w
  have hkinds : (k1 = 4) ∨ ((k1 == 4) = false ∧ k2 = 4) ∨ ((k1 == 4) = false ∧ (k2 == 4) = false ∧ (a.failed = (0, false) ∧ b.failed = (0, false))) := by
    have kk : ∀ (v : V) (k n : Int) (s : ByteArray), v.tell = .agg #[.int .i64 k, .int .i64 n, .string s] → k = 4 ∨ ((k == 4) = false ∧ v.failed = (0, false)) := fun v k n s hv => by
      cases v <;> simp [V.tell] at hv <;> obtain ⟨rfl, _⟩ := hv <;> first | exact .inl rfl | exact .inr ⟨rfl, rfl⟩
    rcases kk a k1 b1 s1 ea with h1 | ⟨h1, h1'⟩
    · exact .inl h1
    · rcases kk b k2 b2 s2 eb with h2 | ⟨h2, h2'⟩
      · exact .inr (.inl ⟨h1, h2⟩)
      · exact .inr (.inr ⟨h1, h2, h1', h2'⟩)
  rw [ea, eb] at HRJ HRC HRH HRA
  obtain ⟨j1, j2, j3, ej⟩ := tell_form (joinV a b)
  obtain ⟨i1, i2, i3, ei⟩ := tell_form (holdV op a b)
  obtain ⟨l1, l2, l3, el⟩ := tell_form (arithV op a b)
  rw [ej] at HRJ HTJ
  rw [ei] at HRH HTH
  rw [el] at HRA HTA
  clear ga gb sa sb fa fb fa2 fb2 ea eb ej ei el
  have HK := Lib.hid hkinds
  clear hkinds
  generalize (joinV a b).val = vj at *
  generalize (holdV op a b).val = vh at *
  generalize (arithV op a b).val = vx at *
  generalize a.cmp b = c at *
  have HFF : Hid (∀ Pp : Prop, ((a.failed = (0, false) ∧ b.failed = (0, false)) → Pp) → (a.failed = (0, false) ∧ b.failed = (0, false)) → Pp) := Lib.hid fun _ h h2 => h h2
  generalize (a.failed = (0, false) ∧ b.failed = (0, false)) = FF at *
  clear HFF
  generalize a.val = av at *
  generalize b.val = bv at *
  obtain ⟨k, m, s⟩ := p
  obtain ⟨k', m', s'⟩ := q
  simp only [P.val, P.cut] at HCp HCq HMp HMq ⊢
  generalize (⟨(s.data.toList.take 2000).toArray⟩ : ByteArray) = t at *
  generalize (⟨(s'.data.toList.take 2000).toArray⟩ : ByteArray) = t' at *
  have qA : ∀ j, ((w.alloc (.cells #[.int .i64 k, .int .i64 m, .string s] 41)).alloc (.cells #[.int .i64 k', .int .i64 m', .string s'] 41)).cell? ⟨w.heap.size, j, none⟩ = (#[Value.int .i64 k, .int .i64 m, .string s])[j]? := fun j => by
    rw [World.cell?_alloc_past _ _ _ (by simp), World.cell?_alloc_at _ _ _ _ rfl]
  have qB : ∀ j, ((w.alloc (.cells #[.int .i64 k, .int .i64 m, .string s] 41)).alloc (.cells #[.int .i64 k', .int .i64 m', .string s'] 41)).cell? ⟨w.heap.size + 1, j, none⟩ = (#[Value.int .i64 k', .int .i64 m', .string s'])[j]? := fun j => by
    rw [World.cell?_alloc_at _ _ _ _ (by simp)]
  have qf0 : ((w.alloc (.cells #[.int .i64 k, .int .i64 m, .string s] 41)).alloc (.cells #[.int .i64 k', .int .i64 m', .string s'] 41)).frozen? ⟨w.heap.size, 2, none⟩ = false := by simp
  have qf1 : ((w.alloc (.cells #[.int .i64 k, .int .i64 m, .string s] 41)).alloc (.cells #[.int .i64 k', .int .i64 m', .string s'] 41)).frozen? ⟨w.heap.size + 1, 2, none⟩ = false := by simp
  have qs : ((w.alloc (.cells #[.int .i64 k, .int .i64 m, .string s] 41)).alloc (.cells #[.int .i64 k', .int .i64 m', .string s'] 41)).heap.size = w.heap.size + 1 + 1 := by simp
  have qb : Below w.heap.size w ((w.alloc (.cells #[.int .i64 k, .int .i64 m, .string s] 41)).alloc (.cells #[.int .i64 k', .int .i64 m', .string s'] 41)) := ((Below.refl _ _).alloc (Nat.le_refl _) _).alloc (by simp) _
  have QA := Lib.hid qA
  have QB := Lib.hid qB
  have qa2 := qA 2
  have qb2 := qB 2
  have QS := Lib.hid qs
  have QBe := Lib.hid qb
  simp only [List.getElem?_toArray, List.getElem?_cons_zero, List.getElem?_cons_succ] at qa2 qb2
  clear qA qB qs qb
  go_enter Tryz.func4, Tryz.ntmps4
  go_wp2
  generalize (w.alloc (.cells #[.int .i64 k, .int .i64 m, .string s] 41)).alloc (.cells #[.int .i64 k', .int .i64 m', .string s'] 41) = A at *
  have hA : ∃ W, W = ((A.setCell ⟨w.heap.size, 2, none⟩ (.string t)).setCell ⟨w.heap.size + 1, 2, none⟩ (.string t')).drew := ⟨_, rfl⟩
  obtain ⟨B, hB⟩ := hA
  have HB := Lib.hid hB
  clear hB
  go_cut [13] (fun c wx => c = .string t ∧ wx = B)
  case first =>
    go_region_with (first
      | (go_at_call_of 7 (Value.string s); refine (HCp.out _).mono ?_; rintro e w1 ⟨rfl, rfl⟩)
      | (go_at_call_of 7 (Value.string s'); refine (HCq.out _).mono ?_; rintro e w1 ⟨rfl, rfl⟩))
    all_goals
      go_wp2_with fail
      go_meet
      exact ⟨rfl, HB.out.symm⟩
  case rest =>
    obtain ⟨rfl, hw0⟩ := hcut
    subst hw0
    obtain ⟨p0, p1⟩ := pair_set (t := t) (t' := t') QA.out QB.out
    have pbe : Below w.heap.size w ((A.setCell ⟨w.heap.size, 2, none⟩ (.string t)).setCell ⟨w.heap.size + 1, 2, none⟩ (.string t')).drew := ((QBe.out.setCell (by show w.heap.size ≤ w.heap.size; omega) _).setCell (by show w.heap.size ≤ w.heap.size + 1; omega) _).drew
    have psz : ((A.setCell ⟨w.heap.size, 2, none⟩ (.string t)).setCell ⟨w.heap.size + 1, 2, none⟩ (.string t')).drew.heap.size = w.heap.size + 1 + 1 := by
      rw [← QS.out]; simp [World.setCell]
    rw [← HB.out] at p0 p1 pbe psz
    clear HB QA QB QS QBe qf0 qf1 qa2 qb2
    have HM := Lib.hid hM
    have HP := Lib.hid hP
    have HU := Lib.hid hU
    clear hM hP hU
    go_wp2_with (first | (go_at_call 17; fail))
    go_at_call 17
    refine (HMp.out _ (tabs_below HU.out pbe h6) (by rw [psz]; omega)).mono ?_
    rintro e w1 ⟨rfl, hb1⟩
    have c1 := fun j => (hb1.cell (p := ⟨w.heap.size + 1, j, none⟩) (by rw [psz]; show w.heap.size + 1 < _; omega)).trans (p1 j)
    have hz1 : w.heap.size + 1 < w1.heap.size := by have := hb1.size; omega
    have HB1 := Lib.hid (pbe.trans (hb1.mono pbe.size))
    clear p0 p1 pbe psz hb1
    go_wp2_with (first | (go_at_call 17; fail))
    have x0 : ∀ j, (w1.alloc (.cells #[.int .i64 k1, .int .i64 b1, .string s1] 28)).cell? ⟨w1.heap.size, j, none⟩ = (#[Value.int .i64 k1, .int .i64 b1, .string s1])[j]? := fun j => by
      rw [World.cell?_alloc_at _ _ _ _ rfl]
    have hz2 : (w1.alloc (.cells #[.int .i64 k1, .int .i64 b1, .string s1] 28)).heap.size = w1.heap.size + 1 := by simp
    have hB2 : Below w.heap.size w (w1.alloc (.cells #[.int .i64 k1, .int .i64 b1, .string s1] 28)) := HB1.out.alloc HB1.out.size _
    clear c1
    generalize w1.alloc (.cells #[.int .i64 k1, .int .i64 b1, .string s1] 28) = W2 at *
    go_at_call 17
    refine (HMq.out _ (tabs_below HU.out hB2 h6) (by rw [hz2]; omega)).mono ?_
    rintro e w2 ⟨rfl, hb2⟩
    have x2 := fun j => (hb2.cell (p := ⟨w1.heap.size, j, none⟩) (by rw [hz2]; show w1.heap.size < _; omega)).trans (x0 j)
    have hx2 : w1.heap.size < w2.heap.size := by have := hb2.size; omega
    have HB3 := Lib.hid (hB2.trans (hb2.mono hB2.size))
    clear x0 hz2 hB2 hb2 HB1
    generalize w1.heap.size = x at *
    clear hz1
    go_wp2
    have y3 : ∀ j, (w2.alloc (.cells #[.int .i64 k2, .int .i64 b2, .string s2] 28)).cell? ⟨w2.heap.size, j, none⟩ = (#[Value.int .i64 k2, .int .i64 b2, .string s2])[j]? := fun j => by
      rw [World.cell?_alloc_at _ _ _ _ rfl]
    have x3 : ∀ j, (w2.alloc (.cells #[.int .i64 k2, .int .i64 b2, .string s2] 28)).cell? ⟨x, j, none⟩ = (#[Value.int .i64 k1, .int .i64 b1, .string s1])[j]? := fun j => by
      rw [World.cell?_alloc_past _ _ _ hx2]; exact x2 j
    have hz5 : (w2.alloc (.cells #[.int .i64 k2, .int .i64 b2, .string s2] 28)).heap.size = w2.heap.size + 1 := by simp
    have hB5 : Below w.heap.size w (w2.alloc (.cells #[.int .i64 k2, .int .i64 b2, .string s2] 28)) := HB3.out.alloc HB3.out.size _
    clear x2
    generalize w2.alloc (.cells #[.int .i64 k2, .int .i64 b2, .string s2] 28) = w5 at *
    have hS : PairS w5 x w2.heap.size k1 b1 k2 b2 s1 s2 w5 := ⟨x3 0, x3 1, x3 2, y3 0, y3 1, y3 2, Lib.hid (by omega), Lib.hid (by omega), Lib.hid (Below.refl _ _)⟩
    have HB5 := Lib.hid hB5
    have hs5 := hB5.size
    clear x3 y3 hz5 hB5 HB3 hx2
    generalize w2.heap.size = y at *
    go_region_held3 (fun w' => w'.cell? ⟨x, 0, none⟩ = some (.int .i64 k1) ∧ w'.cell? ⟨x, 1, none⟩ = some (.int .i64 b1) ∧ w'.cell? ⟨x, 2, none⟩ = some (.string s1) ∧
  w'.cell? ⟨y, 0, none⟩ = some (.int .i64 k2) ∧ w'.cell? ⟨y, 1, none⟩ = some (.int .i64 b2) ∧ w'.cell? ⟨y, 2, none⟩ = some (.string s2) ∧ Hid (x < w5.heap.size) ∧ Hid (y < w5.heap.size) ∧ Hid (Below w5.heap.size w5 w'))
      (first | exact PairS.drew ‹PairS w5 x y k1 b1 k2 b2 s1 s2 _› | exact PairS.below ‹PairS w5 x y k1 b1 k2 b2 s1 s2 _› ‹Below _ _ _›)
      (first
        | (go_at_call 18; refine (HAW.out _ (HM.out.below (HB5.out.trans ((‹PairS w5 x y k1 b1 k2 b2 s1 s2 _›).2.2.2.2.2.2.2.2.out.mono hs5)))).mono ?_; rintro e w6 ⟨rfl, hb6⟩)
        | (go_at_call 19; refine (HJ.out _ (HP.out.below (HB5.out.trans ((‹PairS w5 x y k1 b1 k2 b2 s1 s2 _›).2.2.2.2.2.2.2.2.out.mono hs5)))).mono ?_; rintro e w6 ⟨rfl, hb6⟩)
        | (go_at_call 12; refine (HTJ.out _).mono ?_; rintro e w6 ⟨rfl, hb6⟩)
        | (go_at_call 20; refine (HRJ.out _).mono ?_; rintro e w6 ⟨rfl, hb6⟩))
    go_upto_region 6 with (fail)
    go_cut [57] (fun c wx => c = .bool false ∧ Hid (PairS w5 x y k1 b1 k2 b2 s1 s2 wx))
    case first =>
      rcases HK.out with rfl | ⟨h4, rfl⟩ | ⟨h4, h4', hF⟩
      · have h44 : ((4 : Int) != 4) = false := rfl
        have hS6 : PairS w5 x y 4 b1 k2 b2 s1 s2 w6 := by assumption
        have hS7 := hS6
        obtain ⟨m0, _, _, n0, _⟩ := hS6
        go_quiet (fail)
        go_wp2_with fail
        go_meet
        exact ⟨rfl, Lib.hid (PairS.below hS7 (below_drewN (Below.refl _ _) _))⟩
      · have h4n : (k1 != 4) = true := by simp [bne, h4]
        have h44 : ((4 : Int) != 4) = false := rfl
        have hS6 : PairS w5 x y k1 b1 4 b2 s1 s2 w6 := by assumption
        have hS7 := hS6
        obtain ⟨m0, _, _, n0, _⟩ := hS6
        go_quiet (fail)
        go_wp2_with fail
        go_meet
        exact ⟨rfl, Lib.hid (PairS.below hS7 (below_drewN (Below.refl _ _) _))⟩
      · have h4n : (k1 != 4) = true := by simp [bne, h4]
        have h4m : (k2 != 4) = true := by simp [bne, h4']
        go_region_held3 (fun w' => w'.cell? ⟨x, 0, none⟩ = some (.int .i64 k1) ∧ w'.cell? ⟨x, 1, none⟩ = some (.int .i64 b1) ∧ w'.cell? ⟨x, 2, none⟩ = some (.string s1) ∧
  w'.cell? ⟨y, 0, none⟩ = some (.int .i64 k2) ∧ w'.cell? ⟨y, 1, none⟩ = some (.int .i64 b2) ∧ w'.cell? ⟨y, 2, none⟩ = some (.string s2) ∧ Hid (x < w5.heap.size) ∧ Hid (y < w5.heap.size) ∧ Hid (Below w5.heap.size w5 w'))
          (first | exact PairS.drew ‹PairS w5 x y k1 b1 k2 b2 s1 s2 _› | exact PairS.below ‹PairS w5 x y k1 b1 k2 b2 s1 s2 _› ‹Below _ _ _›)
          (first
            | (go_at_call 21; refine (HC.out _).mono ?_; rintro e w6 ⟨rfl, hb6⟩)
            | (go_at_call 22; refine (HRC.out _ (by assumption)).mono ?_; rintro e w6 ⟨rfl, hb6⟩))
        all_goals
          go_wp2_with fail
          go_meet
          exact ⟨rfl, Lib.hid (by assumption)⟩
    case rest =>
      obtain ⟨rfl, hS2⟩ := hcut
      have hS3 : PairS w5 x y k1 b1 k2 b2 s1 s2 _ := hS2.out
      clear hS2
      have hop : op < 0 ∨ 5 < op ∨ op = 5 ∨ (0 ≤ op ∧ op ≤ 4) := by omega
      rcases hop with ho | ho | rfl | ⟨ho1, ho2⟩
      · have HB9 := HB5.out.trans (hS3.2.2.2.2.2.2.2.2.out.mono hs5)
        clear hS3
        go_wp2
        go_ret
        exact ⟨rfl, HB9⟩
      · have HB9 := HB5.out.trans (hS3.2.2.2.2.2.2.2.2.out.mono hs5)
        have ho1 : ¬ op < 0 := by omega
        clear hS3
        go_wp2
        go_ret
        exact ⟨rfl, HB9⟩
      · go_wp2
        go_region_held3 (fun w' => w'.cell? ⟨x, 0, none⟩ = some (.int .i64 k1) ∧ w'.cell? ⟨x, 1, none⟩ = some (.int .i64 b1) ∧ w'.cell? ⟨x, 2, none⟩ = some (.string s1) ∧
  w'.cell? ⟨y, 0, none⟩ = some (.int .i64 k2) ∧ w'.cell? ⟨y, 1, none⟩ = some (.int .i64 b2) ∧ w'.cell? ⟨y, 2, none⟩ = some (.string s2) ∧ Hid (x < w5.heap.size) ∧ Hid (y < w5.heap.size) ∧ Hid (Below w5.heap.size w5 w'))
          (first | exact PairS.drew ‹PairS w5 x y k1 b1 k2 b2 s1 s2 _› | exact PairS.below ‹PairS w5 x y k1 b1 k2 b2 s1 s2 _› ‹Below _ _ _›)
          (first
            | (go_at_call 23; refine (HH.out _ (by omega)).mono ?_; rintro e w6 ⟨rfl, hb6⟩)
            | (go_at_call 12; refine (HTH.out _).mono ?_; rintro e w6 ⟨rfl, hb6⟩)
            | (go_at_call 24; refine (HRH.out _ (by omega)).mono ?_; rintro e w6 ⟨rfl, hb6⟩))
        all_goals
          have hS9 : PairS w5 x y k1 b1 k2 b2 s1 s2 w6 := by assumption
          have HB9 := HB5.out.trans (hS9.2.2.2.2.2.2.2.2.out.mono hs5)
          clear hS9
          go_wp2
          go_quiet (fail)
          go_wp2
          go_ret
          exact ⟨rfl, below_drewN HB9 _⟩
      · have ho3 : ¬ op < 0 := by omega
        have ho4 : ¬ 5 < op := by omega
        have ho5 : ¬ 4 < op := by omega
        have ho6 : decide (4 < op) = false := decide_eq_false ho5
        go_wp2
        go_region_held3 (fun w' => w'.cell? ⟨x, 0, none⟩ = some (.int .i64 k1) ∧ w'.cell? ⟨x, 1, none⟩ = some (.int .i64 b1) ∧ w'.cell? ⟨x, 2, none⟩ = some (.string s1) ∧
  w'.cell? ⟨y, 0, none⟩ = some (.int .i64 k2) ∧ w'.cell? ⟨y, 1, none⟩ = some (.int .i64 b2) ∧ w'.cell? ⟨y, 2, none⟩ = some (.string s2) ∧ Hid (x < w5.heap.size) ∧ Hid (y < w5.heap.size) ∧ Hid (Below w5.heap.size w5 w'))
          (first | exact PairS.drew ‹PairS w5 x y k1 b1 k2 b2 s1 s2 _› | exact PairS.below ‹PairS w5 x y k1 b1 k2 b2 s1 s2 _› ‹Below _ _ _›)
          (first
            | (go_at_call 23; refine (HH.out _ (by omega)).mono ?_; rintro e w6 ⟨rfl, hb6⟩)
            | (go_at_call 12; refine (HTH.out _).mono ?_; rintro e w6 ⟨rfl, hb6⟩)
            | (go_at_call 24; refine (HRH.out _ (by omega)).mono ?_; rintro e w6 ⟨rfl, hb6⟩))
        all_goals
          go_wp2
          go_region_held3 (fun w' => w'.cell? ⟨x, 0, none⟩ = some (.int .i64 k1) ∧ w'.cell? ⟨x, 1, none⟩ = some (.int .i64 b1) ∧ w'.cell? ⟨x, 2, none⟩ = some (.string s1) ∧
  w'.cell? ⟨y, 0, none⟩ = some (.int .i64 k2) ∧ w'.cell? ⟨y, 1, none⟩ = some (.int .i64 b2) ∧ w'.cell? ⟨y, 2, none⟩ = some (.string s2) ∧ Hid (x < w5.heap.size) ∧ Hid (y < w5.heap.size) ∧ Hid (Below w5.heap.size w5 w'))
            (first | exact PairS.drew ‹PairS w5 x y k1 b1 k2 b2 s1 s2 _› | exact PairS.below ‹PairS w5 x y k1 b1 k2 b2 s1 s2 _› ‹Below _ _ _›)
            (first
              | (go_at_call 25; refine (HA.out _ (HM.out.below (HB5.out.trans ((‹PairS w5 x y k1 b1 k2 b2 s1 s2 _›).2.2.2.2.2.2.2.2.out.mono hs5))) (by omega)).mono ?_; rintro e w6 ⟨rfl, hb6⟩)
              | (go_at_call 12; refine (HTA.out _).mono ?_; rintro e w6 ⟨rfl, hb6⟩)
              | (go_at_call 26; refine (HRA.out _ (by omega)).mono ?_; rintro e w6 ⟨rfl, hb6⟩))
          all_goals
            have hS9 : PairS w5 x y k1 b1 k2 b2 s1 s2 w6 := by assumption
            have HB9 := HB5.out.trans (hS9.2.2.2.2.2.2.2.2.out.mono hs5)
            clear hS9
            go_wp2
            go_ret
            exact ⟨rfl, HB9⟩
theorem valuePairs_walk (w : World) (p q : P) (op : Int) (_ho : -9223372036854775808 ≤ op ∧ op ≤ 9223372036854775807) (hM : GM w) (hP : GP w) (hU : Lib.Utf8Tabs 4 5 w) (h6 : 5 < w.heap.size) :
    Calls Tryz.prog 4 #[p.val, q.val, .int .i64 op] w fun e w' => e = .returned (.bool true) ∧ Below w.heap.size w w' := valuePairs_main p q op w hM hP hU h6
end Go.Proofs.YtkobkeopajohiaaGreatDoor
