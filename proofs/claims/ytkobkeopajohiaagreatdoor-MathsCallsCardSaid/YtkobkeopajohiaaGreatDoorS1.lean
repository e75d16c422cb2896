/-
  CONTRACTS of package maths' functions of numbers: away, stepped, nearest, quotient, fact, pair, at all numbers.
-/
import Derived.Test.YtkobkeopajohiaaGreatDoorVB
import Derived.Test.YtkobkeopajohiaaGreatDoorNC
namespace Go.Proofs.YtkobkeopajohiaaGreatDoor
open Go.RowKit Go.Lib

/-- 1 in the last of so many places, below the point or ahead of it -/
def stepW (n : Int) : Int × Bool := if 0 < n then (step n, true) else Tab.powS 100000 (-n)
def awayW (a n : Int) : V :=
  if Tab.truncS a n = a then .num a
  else if (stepW n).2 then cnt (Tab.fit (if a < 0 then Tab.truncS a n - (stepW n).1 else Tab.truncS a n + (stepW n).1)) else .fail 2
theorem trunc_bd (a n : Int) (ha : -999999999999999999 ≤ a ∧ a ≤ 999999999999999999) : -999999999999999999 ≤ Tab.truncS a n ∧ Tab.truncS a n ≤ 999999999999999999 := by
  unfold Tab.truncS
  split
  · simp
  · split
    · exact ha
    · have := Tab.tmod_sub a (10 ^ (4 - n).toNat)
      omega
set_option maxHeartbeats 1600000 in
set_option maxRecDepth 100000 in
theorem away_any (a n : Int) (v : V) (w : World) (hG : GT w) (ha : -999999999999999999 ≤ a ∧ a ≤ 999999999999999999) (hn : -20 ≤ n ∧ n ≤ 20) (hv : awayW a n = v) :
    Calls Tryz.prog 48 #[.int .i64 a, .int .i64 n] w fun e w' => e = .returned v.val ∧ ∃ n, w' = w.drewN n := by
  have HT := Lib.hid fun w hG => trunc_any a n w hG ha
  obtain ⟨t0, t1⟩ := trunc_bd a n ha
  have h4 : 4 ≤ n → Tab.truncS a n = a := fun h => by unfold Tab.truncS; rw [if_neg (by omega), if_pos h]
  unfold awayW at hv
  by_cases hta : Tab.truncS a n = a
  · rw [if_pos hta] at hv
    subst hv
    rw [hta] at HT
    have hc : (a == a) = true := by simp
    simp only [V.val]
    clear hta h4 t0 t1
    go_enter Tryz.func48, Tryz.ntmps48
    go_wp2_with (first | (go_at_call 45; refine (HT.out _ hG).mono ?_; rintro e w' ⟨rfl, rfl⟩))
    go_ret
    exact ⟨rfl, 0, rfl⟩
  · rw [if_neg hta] at hv
    have hn4 : n < 4 := by
      by_cases h : 4 ≤ n
      · exact absurd (h4 h) hta
      · omega
    generalize Tab.truncS a n = t at *
    have hc : (t == a) = false := by rw [beq_eq_false_iff_ne]; exact hta
    clear hta h4
    obtain ⟨r, k, hp⟩ : ∃ r k, Tab.powS 100000 (-n) = (r, k) := ⟨_, _, rfl⟩
    have HP := Lib.hid fun w => pow_any 100000 (-n) r k w (by omega) hp
    by_cases hn0 : 0 < n
    · have hs : stepW n = (step n, true) := by unfold stepW; rw [if_pos hn0]
      have hn5 : n = 1 ∨ n = 2 ∨ n = 3 ∨ n = 4 := by omega
      obtain ⟨s0, s1⟩ := step_bd n (by omega)
      have HU : Hid (∀ w, Calls Tryz.prog 118 #[.int .i64 n] w fun e w' => e = .returned (.int .i64 (step n)) ∧ w = w') := Lib.hid fun w => unit108 n w hn5
      rw [hs] at hv
      simp only [if_true] at hv
      clear hs hp hn5
      generalize step n = u at *
      by_cases hneg : a < 0
      · rw [if_pos hneg] at hv
        obtain ⟨m, ok, hm⟩ : ∃ m ok, Tab.fit (t - u) = (m, ok) := ⟨_, _, rfl⟩
        rw [hm] at hv
        have HS := Lib.hid fun w => sub_is t u m ok w (by omega) hm
        have HC := Lib.hid fun w => counted_v m ok v w hv
        clear hv hm
        rw [V.val_eq] at HC ⊢
        generalize v.ty = tv at *
        generalize v.raw = xv at *
        go_enter Tryz.func48, Tryz.ntmps48
        go_wp2_with (first
          | (go_at_call 45; refine (HT.out _ hG).mono ?_; rintro e w' ⟨rfl, rfl⟩)
          | (go_at_call 117; refine (HP.out _).mono ?_; rintro e w' ⟨rfl, k, rfl⟩)
          | (go_at_call 118; refine (HU.out _).mono ?_; rintro e w' ⟨rfl, rfl⟩)
          | (go_at_call 94; refine (HS.out _).mono ?_; rintro e w' ⟨rfl, rfl⟩)
          | (go_at_call 43; refine (HC.out _).mono ?_; rintro e w' ⟨rfl, rfl⟩))
        go_ret
        exact ⟨rfl, _, rfl⟩
      · rw [if_neg hneg] at hv
        obtain ⟨m, ok, hm⟩ : ∃ m ok, Tab.fit (t + u) = (m, ok) := ⟨_, _, rfl⟩
        rw [hm] at hv
        have HS := Lib.hid fun w => add_is t u m ok w (by omega) hm
        have HC := Lib.hid fun w => counted_v m ok v w hv
        clear hv hm
        rw [V.val_eq] at HC ⊢
        generalize v.ty = tv at *
        generalize v.raw = xv at *
        go_enter Tryz.func48, Tryz.ntmps48
        go_wp2_with (first
          | (go_at_call 45; refine (HT.out _ hG).mono ?_; rintro e w' ⟨rfl, rfl⟩)
          | (go_at_call 117; refine (HP.out _).mono ?_; rintro e w' ⟨rfl, k, rfl⟩)
          | (go_at_call 118; refine (HU.out _).mono ?_; rintro e w' ⟨rfl, rfl⟩)
          | (go_at_call 93; refine (HS.out _).mono ?_; rintro e w' ⟨rfl, rfl⟩)
          | (go_at_call 43; refine (HC.out _).mono ?_; rintro e w' ⟨rfl, rfl⟩))
        go_ret
        exact ⟨rfl, _, rfl⟩
    · have hs : stepW n = (r, k) := by unfold stepW; rw [if_neg hn0, hp]
      have hr : -999999999999999999 ≤ r ∧ r ≤ 999999999999999999 := by
        have e : r = (Tab.powS 100000 (-n)).1 := by rw [hp]
        rw [e]
        unfold Tab.powS
        split
        · simp
        · split
          · rw [if_neg (show ¬ -n < 0 by omega)]; exact Tab.powN_bd _ _ _ (by omega)
          · simp
      obtain ⟨r0, r1⟩ := hr
      rw [hs] at hv
      clear hs hp
      cases k
      · simp only [Bool.false_eq_true, if_false] at hv
        subst hv
        simp only [V.val]
        go_enter Tryz.func48, Tryz.ntmps48
        go_wp2_with (first
          | (go_at_call 45; refine (HT.out _ hG).mono ?_; rintro e w' ⟨rfl, rfl⟩)
          | (go_at_call 117; refine (HP.out _).mono ?_; rintro e w' ⟨rfl, k, rfl⟩))
        go_ret
        exact ⟨rfl, _, rfl⟩
      · simp only [if_true] at hv
        by_cases hneg : a < 0
        · rw [if_pos hneg] at hv
          obtain ⟨m, ok, hm⟩ : ∃ m ok, Tab.fit (t - r) = (m, ok) := ⟨_, _, rfl⟩
          rw [hm] at hv
          have HS := Lib.hid fun w => sub_is t r m ok w (by omega) hm
          have HC := Lib.hid fun w => counted_v m ok v w hv
          clear hv hm
          rw [V.val_eq] at HC ⊢
          generalize v.ty = tv at *
          generalize v.raw = xv at *
          go_enter Tryz.func48, Tryz.ntmps48
          go_wp2_with (first
            | (go_at_call 45; refine (HT.out _ hG).mono ?_; rintro e w' ⟨rfl, rfl⟩)
            | (go_at_call 117; refine (HP.out _).mono ?_; rintro e w' ⟨rfl, k, rfl⟩)
            | (go_at_call 94; refine (HS.out _).mono ?_; rintro e w' ⟨rfl, rfl⟩)
            | (go_at_call 43; refine (HC.out _).mono ?_; rintro e w' ⟨rfl, rfl⟩))
          go_ret
          exact ⟨rfl, _, rfl⟩
        · rw [if_neg hneg] at hv
          obtain ⟨m, ok, hm⟩ : ∃ m ok, Tab.fit (t + r) = (m, ok) := ⟨_, _, rfl⟩
          rw [hm] at hv
          have HS := Lib.hid fun w => add_is t r m ok w (by omega) hm
          have HC := Lib.hid fun w => counted_v m ok v w hv
          clear hv hm
          rw [V.val_eq] at HC ⊢
          generalize v.ty = tv at *
          generalize v.raw = xv at *
          go_enter Tryz.func48, Tryz.ntmps48
          go_wp2_with (first
            | (go_at_call 45; refine (HT.out _ hG).mono ?_; rintro e w' ⟨rfl, rfl⟩)
            | (go_at_call 117; refine (HP.out _).mono ?_; rintro e w' ⟨rfl, k, rfl⟩)
            | (go_at_call 93; refine (HS.out _).mono ?_; rintro e w' ⟨rfl, rfl⟩)
            | (go_at_call 43; refine (HC.out _).mono ?_; rintro e w' ⟨rfl, rfl⟩))
          go_ret
          exact ⟨rfl, _, rfl⟩
/-- the greatest multiple of a step that isn't above a number, the least one that isn't below -/
def steppedV (a s : Int) (up : Bool) : V :=
  if s = 0 then .num 0 else if s < 0 then .fail 2 else if up then cnt (-(Tab.fit (-a - (-a) % s)).1, (Tab.fit (-a - (-a) % s)).2) else cnt (Tab.fit (a - a % s))
set_option maxHeartbeats 1600000 in
set_option maxRecDepth 100000 in
theorem stepped_any (a s : Int) (up : Bool) (v : V) (w : World) (ha : -999999999999999999 ≤ a ∧ a ≤ 999999999999999999) (hs : -999999999999999999 ≤ s ∧ s ≤ 999999999999999999) (hv : steppedV a s up = v) :
    Calls Tryz.prog 49 #[.int .i64 a, .int .i64 s, .bool up] w fun e w' => e = .returned v.val ∧ w = w' := by
  unfold steppedV at hv
  by_cases h0 : s = 0
  · rw [if_pos h0] at hv
    subst hv h0
    simp only [V.val]
    go_enter Tryz.func49, Tryz.ntmps49
    go_wp2
    go_ret
    exact ⟨rfl, rfl⟩
  · have hz : (s == 0) = false := by rw [beq_eq_false_iff_ne]; exact h0
    rw [if_neg h0] at hv
    clear h0
    by_cases hn : s < 0
    · rw [if_pos hn] at hv
      subst hv
      simp only [V.val]
      go_enter Tryz.func49, Tryz.ntmps49
      go_wp2
      go_ret
      exact ⟨rfl, rfl⟩
    · rw [if_neg hn] at hv
      have hs0 : 0 < s := by
        have : s ≠ 0 := by simpa using hz
        omega
      cases up
      · simp only [Bool.false_eq_true, if_false] at hv
        have HF := Lib.hid fun w => floor_any a s w ha ⟨hs0, hs.2⟩
        generalize Tab.fit (a - a % s) = R at *
        obtain ⟨m, ok⟩ := R
        have HC := Lib.hid fun w => counted_v m ok v w hv
        clear hv
        rw [V.val_eq] at HC ⊢
        generalize v.ty = tv at *
        generalize v.raw = xv at *
        go_enter Tryz.func49, Tryz.ntmps49
        go_wp2_with (first
          | (go_at_call 44; refine (HF.out _).mono ?_; rintro e w' ⟨rfl, rfl⟩)
          | (go_at_call 43; refine (HC.out _).mono ?_; rintro e w' ⟨rfl, rfl⟩))
        go_ret
        exact ⟨rfl, rfl⟩
      · simp only [if_true] at hv
        have HF := Lib.hid fun w => ceil_any a s w ha ⟨hs0, hs.2⟩
        generalize -(Tab.fit (-a - (-a) % s)).1 = m at *
        generalize (Tab.fit (-a - (-a) % s)).2 = ok at *
        have HC := Lib.hid fun w => counted_v m ok v w hv
        clear hv
        rw [V.val_eq] at HC ⊢
        generalize v.ty = tv at *
        generalize v.raw = xv at *
        go_enter Tryz.func49, Tryz.ntmps49
        go_wp2_with (first
          | (go_at_call 119; refine (HF.out _).mono ?_; rintro e w' ⟨rfl, rfl⟩)
          | (go_at_call 43; refine (HC.out _).mono ?_; rintro e w' ⟨rfl, rfl⟩))
        go_ret
        exact ⟨rfl, rfl⟩
end Go.Proofs.YtkobkeopajohiaaGreatDoor
