/-
  THE WALK of the law ValueBack: what is typed for a value is that value; a value goes as bytes, and comes back.
-/
import Derived.Test.YtkobkeopajohiaaGreatDoorK6
import Derived.Test.YtkobkeopajohiaaGreatDoorJ3
import Derived.Test.YtkobkeopajohiaaGreatDoorG5
import Derived.Test.YtkobkeopajohiaaGreatDoorQ1
import Derived.Test.YtkobkeopajohiaaGreatDoorH1
namespace Go.Proofs.YtkobkeopajohiaaGreatDoor
open Go.RowKit Go.Lib

theorem cut_size (p : P) (n : Nat) : (p.cut n).s.size ≤ n := by
  rw [size_eq]
  show (p.s.data.toList.take n).length ≤ n
  rw [List.length_take]; omega
theorem bytes_len (v : V) (hg : v.good) (hs : v.short 2000) : v.bytes.length ≤ 1000000 := by
  have hl : ∀ u, u < 18446744073709551616 → (vint u).length ≤ 10 := fun u hu => vint_len 9 u (by omega)
  have hf : ∀ n : Int, -1000000000000000000 ≤ n ∧ n ≤ 1000000000000000000 → (vint (fold n)).length ≤ 10 := fun n hn => hl _ (fold_lt n hn)
  cases v with
  | num n => have h1 := hg.1; have h2 := hg.2; have := hf n (by omega); have := hl 1 (by decide); simp only [V.bytes, List.length_append]; omega
  | text s =>
    have h1 : s.size ≤ 2000 := hs
    have := hl s.size (by omega)
    have := hl 2 (by decide)
    simp only [V.bytes, List.length_append]
    rw [← size_eq]; omega
  | bool x => have := hf (if x then 1 else 0) (by cases x <;> decide); have := hl 3 (by decide); simp only [V.bytes, List.length_append]; omega
  | fail n => have h1 := hg.1; have h2 := hg.2; have := hf n (by omega); have := hl 4 (by decide); simp only [V.bytes, List.length_append]; omega
  | blank => have := hl 0 (by decide); simp only [V.bytes]; omega
/-- what the last region of the law reads -/
abbrev BackS (w6 : World) (x r : Nat) (k n : Int) (tx s : ByteArray) (w' : World) : Prop :=
  w'.cell? ⟨x, 0, none⟩ = some (.int .i64 k) ∧ w'.cell? ⟨x, 1, none⟩ = some (.int .i64 n) ∧ w'.cell? ⟨x, 2, none⟩ = some (.string tx) ∧ Hid (Rd w' r s s.size) ∧ Hid (x < w6.heap.size) ∧ Hid (Below w6.heap.size w6 w')
theorem BackS.below {w6 : World} {x r : Nat} {k n : Int} {tx s : ByteArray} {w1 w2 : World} (hS : BackS w6 x r k n tx s w1) (hb : Below w1.heap.size w1 w2) : BackS w6 x r k n tx s w2 := by
  obtain ⟨h0, h1, h2, h3, h4, h5⟩ := hS
  have hl : x < w1.heap.size := Nat.lt_of_lt_of_le h4.out h5.out.size
  exact ⟨(hb.cell hl).trans h0, (hb.cell hl).trans h1, (hb.cell hl).trans h2, Lib.hid (h3.out.below hb), h4, Lib.hid (h5.out.trans (hb.mono h5.out.size))⟩
theorem BackS.drew {w6 : World} {x r : Nat} {k n : Int} {tx s : ByteArray} {w1 : World} (hS : BackS w6 x r k n tx s w1) : BackS w6 x r k n tx s w1.drew := hS.below ((Below.refl _ _).drew)
theorem input_is (v : V) (s : ByteArray) (h : inputV s = v) (hs : s.size ≤ 4294967) (w : World) (hG : GM w) :
    Calls Tryz.prog 34 #[.string s] w fun e w' => e = .returned v.val ∧ Below w.heap.size w w' := h ▸ input_any s w hG hs

set_option maxHeartbeats 6400000 in
set_option maxRecDepth 100000 in
theorem valueBack_main (p : P) (w : World) (hM : GM w) (hP : GP w) (hU : Lib.Utf8Tabs 4 5 w) (h6 : 5 < w.heap.size) :
    Calls Tryz.prog 6 #[p.val] w fun e w' => e = .returned (.bool true) ∧ Below w.heap.size w w' := by
  have HAW := Lib.hid fun w hM => awake15 w hM
  have HCut := Lib.hid fun w => lawCut_any p.s ⟨(p.s.data.toList.take 1000).toArray⟩ 1000 w rfl
  have HMade := Lib.hid fun w hU h7 => lawMade_any (p.cut 1000) w hU h7 (by have := cut_size p 1000; omega)
  have hgood := of_good (p.cut 1000)
  have hok := of_ok (p.cut 1000)
  have hshort : (p.cut 1000).of.short 1000 := of_short _ _ (cut_size p 1000)
  generalize (p.cut 1000).of = v at *
  have hsh2 : v.short 2000 := by cases v <;> first | exact trivial | exact Nat.le_trans hshort (by decide)
  have hsh3 : v.short 100000 := by cases v <;> first | exact trivial | exact Nat.le_trans hshort (by decide)
  obtain ⟨k1, b1, s1, e1⟩ := tell_form v
  have HPut := Lib.hid fun b w h1 h2 h3 => put_any v hgood hsh3 b w h1 h2 h3
  have HGet := Lib.hid fun r s hs hd w hw hU h5 => get_any v hok hgood r s hs hd w hw hU h5
  have HTy := Lib.hid fun w hM hP => typed_back v w hM hP hgood hsh3
  have HIn := Lib.hid fun s h hs w hM => input_is v s h hs w hM
  have HTold := Lib.hid fun w => told_any v w
  have HLen := Lib.hid (bytes_len v hgood hsh2)
  have HPos := Lib.hid (bytes_pos v)
  rw [e1] at HMade HTold
  clear hgood hok hshort hsh2 hsh3 e1
  have HM := Lib.hid hM
  have HP := Lib.hid hP
  have HU := Lib.hid hU
  obtain ⟨k, m, s⟩ := p
  simp only [P.val, P.cut] at HCut HMade ⊢
  generalize (⟨(s.data.toList.take 1000).toArray⟩ : ByteArray) = t at *
  generalize v.val = vv at *
  generalize v.bytes = bs at *
  clear hM hP hU
  have hA0 : Below w.heap.size w (w.alloc (.cells #[.int .i64 k, .int .i64 m, .string t] 41)) := (Below.refl _ _).alloc (Nat.le_refl _) _
  have HU1 := Lib.hid (tabs_below HU.out hA0 h6)
  have H61 : Hid (5 < (w.alloc (.cells #[.int .i64 k, .int .i64 m, .string t] 41)).heap.size) := Lib.hid (by simp; omega)
  have HA0 := Lib.hid hA0
  clear hA0
  go_enter Tryz.func6, Tryz.ntmps6
  go_wp2_with (first | (go_at_call 7; refine (HCut.out _).mono ?_; rintro e w' ⟨rfl, rfl⟩) | (go_at_call 17; fail))
  generalize w.alloc (.cells #[.int .i64 k, .int .i64 m, .string t] 41) = A0 at *
  go_at_call 17
  refine (HMade.out _ HU1.out H61.out).mono ?_
  rintro e w1 ⟨rfl, hb⟩
  have HB1 := Lib.hid (HA0.out.trans (hb.mono HA0.out.size))
  have hs1 := HB1.out.size
  clear hb HU1 H61 HA0
  go_wp2_with (first | (go_at_call 30; fail))
  have hQ1 : Below w1.heap.size w1 ((w1.alloc (.cells #[.int .i64 k1, .int .i64 b1, .string s1] 28)).alloc (.cells #[.slice none 0 0] 61)) := ((Below.refl _ _).alloc (Nat.le_refl _) _).alloc (by simp) _
  have hQx : Hid (∀ j, ((w1.alloc (.cells #[.int .i64 k1, .int .i64 b1, .string s1] 28)).alloc (.cells #[.slice none 0 0] 61)).cell? ⟨w1.heap.size, j, none⟩ = (#[Value.int .i64 k1, .int .i64 b1, .string s1])[j]?) := Lib.hid fun j => by
    rw [World.cell?_alloc_past _ _ _ (by simp), World.cell?_alloc_at _ _ _ _ rfl]
  have hQc : ((w1.alloc (.cells #[.int .i64 k1, .int .i64 b1, .string s1] 28)).alloc (.cells #[.slice none 0 0] 61)).cell? ⟨w1.heap.size + 1, 0, none⟩ = some (.slice none 0 0) := by
    rw [World.cell?_alloc_at _ _ _ _ (by simp)]; rfl
  have hQf : ((w1.alloc (.cells #[.int .i64 k1, .int .i64 b1, .string s1] 28)).alloc (.cells #[.slice none 0 0] 61)).frozen? ⟨w1.heap.size + 1, 0, none⟩ = false := by simp
  have hQs : w1.heap.size + 1 < ((w1.alloc (.cells #[.int .i64 k1, .int .i64 b1, .string s1] 28)).alloc (.cells #[.slice none 0 0] 61)).heap.size := by simp
  have HPu := Lib.hid (HPut.out _ _ hQs hQf hQc)
  have HQ1 := Lib.hid hQ1
  have HQs := Lib.hid hQs
  clear hQ1 hQc hQf hQs HPut
  generalize (w1.alloc (.cells #[.int .i64 k1, .int .i64 b1, .string s1] 28)).alloc (.cells #[.slice none 0 0] 61) = Q at *
  go_at_call 30
  refine HPu.out.mono ?_
  rintro e w2 ⟨rfl, ⟨base, hw2⟩, hb2⟩
  have HX2 := Lib.hid fun j => (hb2.cell (p := ⟨w1.heap.size, j, none⟩) (Nat.lt_succ_self _)).trans (hQx.out j)
  have hq2 := hb2.size
  have hQs := HQs.out
  have HB2 := Lib.hid ((HB1.out.trans (HQ1.out.mono hs1)).trans (hb2.mono (by omega)))
  have HWB := Lib.hid (wBytes _ base bs HPos.out w2 hw2)
  have hx2 : w1.heap.size < w2.heap.size := by omega
  clear hb2 hw2 HQ1 HQs hQx HPu HB1
  go_wp2_with (first | (go_at_call 32; fail))
  go_at_call 32
  refine HWB.out.mono ?_
  rintro e w3 ⟨rfl, hb3⟩
  have HX3 := Lib.hid fun j => (hb3.cell (p := ⟨w1.heap.size, j, none⟩) hx2).trans (HX2.out j)
  have HB3 := Lib.hid (HB2.out.trans (hb3.mono HB2.out.size))
  have hx3 := Nat.lt_of_lt_of_le hx2 hb3.size
  obtain ⟨s0, hs0⟩ : ∃ s0 : ByteArray, s0 = ⟨bs.toArray⟩ := ⟨_, rfl⟩
  have HS0 : Hid (s0.data.toList = bs) := Lib.hid (by rw [hs0])
  have HSz : Hid (s0.size ≤ 1000000) := Lib.hid (by rw [size_eq, HS0.out]; exact HLen.out)
  rw [← hs0]
  clear hb3 hs0 HX2 HB2 HWB
  go_wp2_with (first | (go_at_call 31; fail))
  go_at_call 31
  refine (rRead s0 _).mono ?_
  rintro e w4 ⟨r, rfl, hr, hrd, hb4⟩
  have HX4 := Lib.hid fun j => (hb4.cell (p := ⟨w1.heap.size, j, none⟩) hx3).trans (HX3.out j)
  have HB4 := Lib.hid (HB3.out.trans (hb4.mono HB3.out.size))
  have hxr : w1.heap.size < r := by omega
  have HRd4 := Lib.hid hrd
  have h5r : 5 < r := by have := HB3.out.size; omega
  clear hb4 hrd HX3 HB3
  go_wp2_with (first | (go_at_call 33; fail))
  have hU4 := tabs_below HU.out HB4.out h6
  go_at_call 33
  refine (HGet.out r s0 HSz.out HS0.out _ HRd4.out hU4 h5r).mono ?_
  rintro e w5 ⟨rfl, hrd5, hb5⟩
  have x0 := (hb5.cell (p := ⟨w1.heap.size, 0, none⟩) hxr).trans (HX4.out 0)
  have x1 := (hb5.cell (p := ⟨w1.heap.size, 1, none⟩) hxr).trans (HX4.out 1)
  have x2 := (hb5.cell (p := ⟨w1.heap.size, 2, none⟩) hxr).trans (HX4.out 2)
  simp only [List.getElem?_toArray, List.getElem?_cons_zero, List.getElem?_cons_succ] at x0 x1 x2
  have hwr : w.heap.size ≤ r := by have := HB4.out.size; have := HRd4.out.lt; omega
  have HB5 := Lib.hid (HB4.out.trans (hb5.mono hwr))
  have hx5 : w1.heap.size < w5.heap.size := by have := hrd5.lt; omega
  have hS5 : BackS w5 w1.heap.size r k1 b1 s1 s0 w5 := ⟨x0, x1, x2, Lib.hid hrd5, Lib.hid hx5, Lib.hid (Below.refl _ _)⟩
  have hs5 := HB5.out.size
  clear hb5 hrd5 x0 x1 x2 HX4 HB4 HRd4 hU4
  go_wp2
  go_region_held3 (fun w' => w'.cell? ⟨w1.heap.size, 0, none⟩ = some (.int .i64 k1) ∧ w'.cell? ⟨w1.heap.size, 1, none⟩ = some (.int .i64 b1) ∧ w'.cell? ⟨w1.heap.size, 2, none⟩ = some (.string s1) ∧ Hid (Rd w' r s0 s0.size) ∧ Hid (w1.heap.size < w5.heap.size) ∧ Hid (Below w5.heap.size w5 w'))
    (first | exact BackS.drew ‹BackS w5 w1.heap.size r k1 b1 s1 s0 _› | exact BackS.below ‹BackS w5 w1.heap.size r k1 b1 s1 s0 _› ‹Below _ _ _›)
    (first
      | (go_at_call 18; refine (HAW.out _ (HM.out.below (HB5.out.trans ((‹BackS w5 w1.heap.size r k1 b1 s1 s0 _›).2.2.2.2.2.out.mono hs5)))).mono ?_; rintro e w6 ⟨rfl, hb6⟩)
      | (go_at_call 35; refine (HTy.out _ (HM.out.below (HB5.out.trans ((‹BackS w5 w1.heap.size r k1 b1 s1 s0 _›).2.2.2.2.2.out.mono hs5))) (HP.out.below (HB5.out.trans ((‹BackS w5 w1.heap.size r k1 b1 s1 s0 _›).2.2.2.2.2.out.mono hs5)))).mono ?_; rintro e w6 ⟨sx, rfl, hsx, hsz, hb6⟩)
      | (go_at_call 34; refine (HIn.out _ (by assumption) (by assumption) _ (HM.out.below (HB5.out.trans ((‹BackS w5 w1.heap.size r k1 b1 s1 s0 _›).2.2.2.2.2.out.mono hs5)))).mono ?_; rintro e w6 ⟨rfl, hb6⟩)
      | (go_at_call 12; refine (HTold.out _).mono ?_; rintro e w6 ⟨rfl, hb6⟩)
      | (go_at_call 36; refine (rDone r s0 _ (‹BackS w5 w1.heap.size r k1 b1 s1 s0 _›).2.2.2.1.out).mono ?_; rintro e w6 ⟨rfl, hb6⟩))
  all_goals
    rename_i hS9
    have HB9 := HB5.out.trans (hS9.2.2.2.2.2.out.mono hs5)
    clear hS9
    go_wp2
    go_ret
    exact ⟨rfl, HB9⟩
theorem valueBack_walk (w : World) (p : P) (hM : GM w) (hP : GP w) (hU : Lib.Utf8Tabs 4 5 w) (h6 : 5 < w.heap.size) :
    Calls Tryz.prog 6 #[p.val] w fun e w' => e = .returned (.bool true) ∧ Below w.heap.size w w' := valueBack_main p w hM hP hU h6
end Go.Proofs.YtkobkeopajohiaaGreatDoor
