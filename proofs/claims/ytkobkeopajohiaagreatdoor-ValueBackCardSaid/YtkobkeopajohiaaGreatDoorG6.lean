/-
  CONTRACT of value.Compare.
-/
import Derived.Test.YtkobkeopajohiaaGreatDoorG1
import Derived.Test.YtkobkeopajohiaaGreatDoorV2
import Derived.Deep.RegionHeld3
namespace Go.Proofs.YtkobkeopajohiaaGreatDoor
open Go.RowKit Go.Lib

/-- two values held against one another, each as the other one wants it -/
def cmpOf (x y : V) : Int :=
  if x.rank = y.rank then
    match x, y with
    | .text s, .text t => Lib.compareBytes (great s).data.toList (great t).data.toList
    | .bool p, .bool q => if p = q then 0 else if q then -1 else 1
    | x, y => if x.given.1 < y.given.1 then -1 else if y.given.1 < x.given.1 then 1 else 0
  else if x.rank < y.rank then -1 else 1
def V.cmp (a b : V) : Int := cmpOf (a.as b) (b.as a)
theorem rank_le (v : V) : 0 ≤ v.rank ∧ v.rank ≤ 2 := by cases v <;> simp [V.rank]

set_option maxHeartbeats 1600000 in
set_option maxRecDepth 100000 in
theorem cmp_ranks (a b x y : V) (w : World) (hx : a.as b = x) (hy : b.as a = y) (hr : x.rank < y.rank ∨ y.rank < x.rank) (r : Int) (hR : (if x.rank < y.rank then (-1 : Int) else 1) = r) :
    Calls Tryz.prog 21 #[a.val, b.val] w fun e w' => e = .returned (.int .i64 r) ∧ Below w.heap.size w w' := by
  have HA := Lib.hid fun w => hx ▸ as_any a b w
  have HB := Lib.hid fun w => hy ▸ as_any b a w
  have HX := Lib.hid fun w => rank_any x w
  have HY := Lib.hid fun w => rank_any y w
  obtain ⟨x0, x2⟩ := rank_le x
  obtain ⟨y0, y2⟩ := rank_le y
  clear hx hy
  generalize a.val = av at *
  generalize b.val = bv at *
  generalize x.val = xv at *
  generalize y.val = yv at *
  generalize x.rank = p at *
  generalize y.rank = q at *
  have hd : ¬ p - q = 0 := by omega
  have hd2 : (p - q == 0) = false := by rw [beq_eq_false_iff_ne]; exact hd
  have HR : Hid (max (min (p - q) 1) (-1) = r) := Lib.hid (by rw [← hR]; rcases hr with h | h
                                                              · rw [if_pos h]; omega
                                                              · rw [if_neg (by omega)]; omega)
  clear hR hr
  go_enter Tryz.func21, Tryz.ntmps21
  go_wp2_with (first | (go_at_call 85; fail))
  go_at_call 85
  refine (HA.out _).mono ?_
  rintro e w1 ⟨rfl, hb1⟩
  go_wp2_with (first | (go_at_call 85; fail))
  go_at_call 85
  refine (HB.out _).mono ?_
  rintro e w2 ⟨rfl, hb2⟩
  have hb02 := hb1.trans (hb2.mono hb1.size)
  clear hb1 hb2
  go_wp2_with (first | (go_at_call 86; fail))
  go_at_call 86
  refine (HX.out _).mono ?_
  rintro e w' ⟨rfl, rfl⟩
  go_wp2_with (first | (go_at_call 86; fail))
  go_at_call 86
  refine (HY.out _).mono ?_
  rintro e w' ⟨rfl, rfl⟩
  go_wp2
  go_ret
  exact ⟨by rw [← HR.out]; rfl, hb02⟩

theorem less_num (m n r : Int) (hR : (if m < n then (-1 : Int) else if n < m then 1 else 0) = r) : (m < n ∧ r = -1) ∨ (n < m ∧ r = 1) ∨ (m = n ∧ r = 0) := by
  by_cases h : m < n
  · rw [if_pos h] at hR; exact .inl ⟨h, hR.symm⟩
  · rw [if_neg h] at hR
    by_cases h2 : n < m
    · rw [if_pos h2] at hR; exact .inr (.inl ⟨h2, hR.symm⟩)
    · rw [if_neg h2] at hR; exact .inr (.inr ⟨by omega, hR.symm⟩)
set_option maxHeartbeats 1600000 in
set_option maxRecDepth 100000 in
theorem cmp_given (a b x y : V) (w : World) (hx : a.as b = x) (hy : b.as a = y) (hx0 : x.rank = 0) (hxb : x.isBlank = false) (hy0 : y.rank = 0) (r : Int) (hR : (if x.given.1 < y.given.1 then (-1 : Int) else if y.given.1 < x.given.1 then 1 else 0) = r) :
    Calls Tryz.prog 21 #[a.val, b.val] w fun e w' => e = .returned (.int .i64 r) ∧ Below w.heap.size w w' := by
  have HA := Lib.hid fun w => hx ▸ as_any a b w
  have HB := Lib.hid fun w => hy ▸ as_any b a w
  have HX := Lib.hid fun w => hx0 ▸ rank_any x w
  have HY := Lib.hid fun w => hy0 ▸ rank_any y w
  have HGx := Lib.hid fun w => given_any x w
  have HGy := Lib.hid fun w => given_any y w
  clear hx hy hy0
  generalize a.val = av at *
  generalize b.val = bv at *
  generalize y.val = yv at *
  generalize y.given.2 = ok2 at *
  generalize y.given.1 = n at *
  generalize hm : x.given.1 = m at *
  generalize hk : x.given.2 = ok1 at *
  have hx5 : (∃ k, x = .num k) ∨ (∃ k, x = .fail k) := by
    cases x
    · exact .inl ⟨_, rfl⟩
    · simp [V.rank] at hx0
    · simp [V.rank] at hx0
    · exact .inr ⟨_, rfl⟩
    · simp [V.isBlank] at hxb
  clear hx0 hxb hm hk
  rcases less_num m n r hR with ⟨h, rfl⟩ | ⟨h, rfl⟩ | ⟨rfl, rfl⟩
  all_goals
    clear hR
    rcases hx5 with ⟨k, rfl⟩ | ⟨k, rfl⟩
    all_goals
      simp only [V.val] at HA HX HGx
      go_enter Tryz.func21, Tryz.ntmps21
      go_wp2_with (first | (go_at_call 85; fail))
      go_at_call 85
      refine (HA.out _).mono ?_
      rintro e w1 ⟨rfl, hb1⟩
      go_wp2_with (first | (go_at_call 85; fail))
      go_at_call 85
      refine (HB.out _).mono ?_
      rintro e w2 ⟨rfl, hb2⟩
      have hb02 := hb1.trans (hb2.mono hb1.size)
      clear hb1 hb2
      go_wp2_with (first | (go_at_call 86; fail))
      go_at_call 86
      refine (HX.out _).mono ?_
      rintro e w' ⟨rfl, rfl⟩
      go_wp2_with (first | (go_at_call 86; fail))
      go_at_call 86
      refine (HY.out _).mono ?_
      rintro e w' ⟨rfl, rfl⟩
      go_wp2_with (first | (go_at_call 89; fail))
      go_at_call 89
      refine (HGx.out _).mono ?_
      rintro e w' ⟨rfl, rfl⟩
      go_wp2_with (first | (go_at_call 89; fail))
      go_at_call 89
      refine (HGy.out _).mono ?_
      rintro e w' ⟨rfl, rfl⟩
      go_wp2
      go_ret
      exact ⟨rfl, hb02⟩
set_option maxHeartbeats 1600000 in
set_option maxRecDepth 100000 in
theorem cmp_bools (a b : V) (p q : Bool) (w : World) (hx : a.as b = .bool p) (hy : b.as a = .bool q) (r : Int) (hR : (if p = q then (0 : Int) else if q then -1 else 1) = r) :
    Calls Tryz.prog 21 #[a.val, b.val] w fun e w' => e = .returned (.int .i64 r) ∧ Below w.heap.size w w' := by
  have HA := Lib.hid fun w => hx ▸ as_any a b w
  have HB := Lib.hid fun w => hy ▸ as_any b a w
  have HX := Lib.hid fun w => rank_any (.bool p) w
  have HY := Lib.hid fun w => rank_any (.bool q) w
  clear hx hy
  generalize a.val = av at *
  generalize b.val = bv at *
  simp only [V.val, V.rank] at HA HB HX HY
  cases p <;> cases q <;> simp at hR <;> subst hR
  all_goals
    go_enter Tryz.func21, Tryz.ntmps21
    go_wp2_with (first | (go_at_call 85; fail))
    go_at_call 85
    refine (HA.out _).mono ?_
    rintro e w1 ⟨rfl, hb1⟩
    go_wp2_with (first | (go_at_call 85; fail))
    go_at_call 85
    refine (HB.out _).mono ?_
    rintro e w2 ⟨rfl, hb2⟩
    have hb02 := hb1.trans (hb2.mono hb1.size)
    clear hb1 hb2
    go_wp2_with (first | (go_at_call 86; fail))
    go_at_call 86
    refine (HX.out _).mono ?_
    rintro e w' ⟨rfl, rfl⟩
    go_wp2_with (first | (go_at_call 86; fail))
    go_at_call 86
    refine (HY.out _).mono ?_
    rintro e w' ⟨rfl, rfl⟩
    go_wp2
    go_ret
    exact ⟨rfl, hb02⟩
set_option maxHeartbeats 1600000 in
set_option maxRecDepth 100000 in
theorem cmp_texts (a b : V) (s t : ByteArray) (w : World) (hs : s.size ≤ 4294967296) (ht : t.size ≤ 4294967296) (hx : a.as b = .text s) (hy : b.as a = .text t) (r : Int) (hR : Lib.compareBytes (great s).data.toList (great t).data.toList = r) :
    Calls Tryz.prog 21 #[a.val, b.val] w fun e w' => e = .returned (.int .i64 r) ∧ Below w.heap.size w w' := by
  have HA := Lib.hid fun w => hx ▸ as_any a b w
  have HB := Lib.hid fun w => hy ▸ as_any b a w
  have HX := Lib.hid fun w => rank_any (.text s) w
  have HY := Lib.hid fun w => rank_any (.text t) w
  have HGs := Lib.hid fun w => great_any s w hs
  have HGt := Lib.hid fun w => great_any t w ht
  have HC := Lib.hid fun w => hR ▸ Tryz.strings_Compare (great s) (great t) w
  clear hx hy hR hs ht
  generalize a.val = av at *
  generalize b.val = bv at *
  simp only [V.val, V.rank] at HA HB HX HY
  generalize great s = s' at *
  generalize great t = t' at *
  go_enter Tryz.func21, Tryz.ntmps21
  go_wp2_with (first | (go_at_call 85; fail))
  go_at_call 85
  refine (HA.out _).mono ?_
  rintro e w1 ⟨rfl, hb1⟩
  go_wp2_with (first | (go_at_call 85; fail))
  go_at_call 85
  refine (HB.out _).mono ?_
  rintro e w2 ⟨rfl, hb2⟩
  have hb02 := hb1.trans (hb2.mono hb1.size)
  clear hb1 hb2
  go_wp2_with (first | (go_at_call 86; fail))
  go_at_call 86
  refine (HX.out _).mono ?_
  rintro e w' ⟨rfl, rfl⟩
  go_wp2_with (first | (go_at_call 86; fail))
  go_at_call 86
  refine (HY.out _).mono ?_
  rintro e w' ⟨rfl, rfl⟩
  go_wp2
  go_region_held3 (fun w' => Hid (Below w.heap.size w w')) (first | exact Lib.hid (‹Hid (Below w.heap.size w _)›.out.drew) | exact Lib.hid (‹Hid (Below w.heap.size w _)›.out.trans (‹Below _ _ _›.mono ‹Hid (Below w.heap.size w _)›.out.size)) | exact Lib.hid (‹Below _ _ _›.drew) | assumption)
    (first
      | (go_at_call_of 88 (Value.string s); refine (HGs.out _).mono ?_; rintro e w2 ⟨rfl, hb⟩)
      | (go_at_call_of 88 (Value.string t); refine (HGt.out _).mono ?_; rintro e w2 ⟨rfl, hb⟩)
      | (go_at_call 87; refine (HC.out _).mono ?_; rintro e w2 ⟨rfl, rfl⟩))
  all_goals go_wp2
  all_goals go_ret
  all_goals exact ⟨rfl, (‹Hid (Below w.heap.size w w2)›).out⟩
theorem as_short (a b : V) (n : Nat) (h : a.short n) : (a.as b).short n := by
  cases a <;> cases b <;> first | exact h | exact trivial | exact Nat.zero_le _
theorem as_blank (a b : V) : (a.as b).isBlank = false := by
  cases a <;> cases b <;> rfl
theorem cmp_any (a b : V) (w : World) (ha : a.short 4294967296) (hb : b.short 4294967296) :
    Calls Tryz.prog 21 #[a.val, b.val] w fun e w' => e = .returned (.int .i64 (a.cmp b)) ∧ Below w.heap.size w w' := by
  have hsx := as_short a b _ ha
  have hsy := as_short b a _ hb
  have hbx := as_blank a b
  have hby := as_blank b a
  unfold V.cmp
  obtain ⟨x, hx⟩ : ∃ x, a.as b = x := ⟨_, rfl⟩
  obtain ⟨y, hy⟩ : ∃ y, b.as a = y := ⟨_, rfl⟩
  rw [hx] at hsx hbx ⊢
  rw [hy] at hsy hby ⊢
  unfold cmpOf
  by_cases hr : x.rank = y.rank
  · rw [if_pos hr]
    cases x <;> cases y <;> first
      | (exfalso; simp [V.rank] at hr; done)
      | (exfalso; simp [V.isBlank] at hbx; done)
      | (exfalso; simp [V.isBlank] at hby; done)
      | (exact cmp_texts a b _ _ w hsx hsy hx hy _ rfl)
      | (exact cmp_bools a b _ _ w hx hy _ rfl)
      | (exact cmp_given a b _ _ w hx hy rfl rfl rfl _ rfl)
  · rw [if_neg hr]
    exact cmp_ranks a b x y w hx hy (by omega) _ rfl
end Go.Proofs.YtkobkeopajohiaaGreatDoor
