/-
  CONTRACTS of package maths' functions of numbers: nearest, quotient, pair, fact, at all numbers.
-/
import Derived.Test.YtkobkeopajohiaaGreatDoorS1
namespace Go.Proofs.YtkobkeopajohiaaGreatDoor
open Go.RowKit Go.Lib

/-- a whole number as a value -/
def intS (n : Int) : Int × Bool := if -99999999999999 ≤ n ∧ n ≤ 99999999999999 then (n * 10000, true) else (0, false)
theorem int_any (n m : Int) (ok : Bool) (w : World) (hw : -9223372036854775808 ≤ n ∧ n ≤ 9223372036854775807) (h : intS n = (m, ok)) :
    Calls Tryz.prog 120 #[.int .i64 n] w fun e w' => e = .returned (.tuple #[.int .i64 m, .bool ok]) ∧ w = w' := by
  unfold intS at h
  by_cases hb : -99999999999999 ≤ n ∧ n ≤ 99999999999999
  · rw [if_pos hb] at h
    obtain ⟨rfl, rfl⟩ := Prod.mk.inj h
    exact int_yes n w hb
  · rw [if_neg hb] at h
    obtain ⟨rfl, rfl⟩ := Prod.mk.inj h
    exact int_no n w hw (by omega)
def quotV (a b : Int) : V := if b = 0 then .fail 1 else cnt (intS (a.tdiv b))
theorem tdiv_bd (a b : Int) (ha : -999999999999999999 ≤ a ∧ a ≤ 999999999999999999) : -999999999999999999 ≤ a.tdiv b ∧ a.tdiv b ≤ 999999999999999999 := by
  have h : (a.tdiv b).natAbs ≤ a.natAbs := by rw [Int.natAbs_tdiv]; exact Nat.div_le_self _ _
  omega
set_option maxHeartbeats 1600000 in
set_option maxRecDepth 100000 in
theorem quotient_any (a b : Int) (v : V) (w : World) (ha : -999999999999999999 ≤ a ∧ a ≤ 999999999999999999) (hb : -999999999999999999 ≤ b ∧ b ≤ 999999999999999999) (hv : quotV a b = v) :
    Calls Tryz.prog 53 #[.int .i64 a, .int .i64 b] w fun e w' => e = .returned v.val ∧ w = w' := by
  unfold quotV at hv
  by_cases h0 : b = 0
  · rw [if_pos h0] at hv
    subst hv h0
    simp only [V.val]
    go_enter Tryz.func53, Tryz.ntmps53
    go_wp2
    go_ret
    exact ⟨rfl, rfl⟩
  · rw [if_neg h0] at hv
    have hz : (b == 0) = false := by rw [beq_eq_false_iff_ne]; exact h0
    obtain ⟨q0, q1⟩ := tdiv_bd a b ha
    obtain ⟨m, ok, hm⟩ : ∃ m ok, intS (a.tdiv b) = (m, ok) := ⟨_, _, rfl⟩
    rw [hm] at hv
    have HI := Lib.hid fun w => int_any (a.tdiv b) m ok w (by omega) hm
    have HC := Lib.hid fun w => counted_v m ok v w hv
    have hwr : wrap64 (a.tdiv b) = a.tdiv b := by unfold wrap64; omega
    have hwr2 : IntKind.i64.wrap (a.tdiv b) = a.tdiv b := by rw [IntKind.wrap_i64]; omega
    clear hm hv
    rw [V.val_eq] at HC ⊢
    generalize v.ty = tv at *
    generalize v.raw = xv at *
    obtain ⟨q, hq⟩ : ∃ q, a.tdiv b = q := ⟨_, rfl⟩
    have hq2 : 0 ≤ a → 0 ≤ b → a / b = q := fun h1 h2 => by rw [← hq, Int.tdiv_eq_ediv_of_nonneg h1]
    rw [hq] at HI hwr hwr2 q0 q1
    have hs : (0 ≤ a ∧ 0 < b ∧ a / b = q) ∨ (0 ≤ a ∧ b < 0) ∨ a < 0 := by
      by_cases h1 : 0 ≤ a
      · by_cases h2 : 0 < b
        · exact .inl ⟨h1, h2, hq2 h1 (by omega)⟩
        · have : b ≠ 0 := by simpa using hz
          exact .inr (.inl ⟨h1, by omega⟩)
      · exact .inr (.inr (by omega))
    clear hq2
    rcases hs with ⟨h1, h2, h3⟩ | ⟨h1, h2⟩ | h1
    all_goals
      go_enter Tryz.func53, Tryz.ntmps53
      go_wp2_with (first
        | (go_at_call 120; refine (HI.out _).mono ?_; rintro e w' ⟨rfl, rfl⟩)
        | (go_at_call 43; refine (HC.out _).mono ?_; rintro e w' ⟨rfl, rfl⟩))
      go_ret
      exact ⟨rfl, rfl⟩
/-- the next whole number away from nought that is even, or odd -/
def pairN (a : Int) (odd : Nat) : Nat := let m := a.natAbs / 10000 + (if a.tmod 10000 = 0 then 0 else 1); if m % 2 = odd then m else m + 1
def pairV (a : Int) (odd : Nat) : V := cnt (intS (if a < 0 then -(pairN a odd : Int) else (pairN a odd : Int)))
set_option maxHeartbeats 1600000 in
set_option maxRecDepth 100000 in
theorem pair_any (a : Int) (odd : Nat) (v : V) (w : World) (ho : odd ≤ 1) (ha : -999999999999999999 ≤ a ∧ a ≤ 999999999999999999) (hv : pairV a odd = v) :
    Calls Tryz.prog 57 #[.int .i64 a, .int .i64 odd] w fun e w' => e = .returned v.val ∧ w = w' := by
  have HA := Lib.hid fun w => abs_any a w (by omega) (by omega)
  have HW : Hid (∀ w, Calls Tryz.prog 114 #[.int .i64 (a.natAbs : Int)] w fun e w' => e = .returned (.int .i64 ((a.natAbs / 10000 : Nat) : Int)) ∧ w = w') := Lib.hid fun w => by
    have := whole_any (a.natAbs : Int) w (by omega) (by omega)
    rw [show ((a.natAbs : Int)).tdiv 10000 = ((a.natAbs / 10000 : Nat) : Int) from rfl] at this
    exact this
  have HI := Lib.hid fun w => isInt_any a w
  unfold pairV pairN at hv
  have hb : a.natAbs / 10000 ≤ 99999999999999 := by omega
  generalize a.natAbs / 10000 = m at *
  generalize (a.natAbs : Int) = A at *
  -- whole or not
  obtain ⟨k, hk, hik⟩ : ∃ k : Bool, (a.tmod 10000 == 0) = k ∧ (if a.tmod 10000 = 0 then 0 else 1 : Nat) = (if k then 0 else 1) := by
    by_cases h : a.tmod 10000 = 0
    · exact ⟨true, by simpa using h, by rw [if_pos h]; rfl⟩
    · exact ⟨false, by simpa using h, by rw [if_neg h]; rfl⟩
  rw [hk] at HI
  rw [hik] at hv
  clear hk hik
  obtain ⟨m1, hm1⟩ : ∃ m1, m + (if k then 0 else 1) = m1 := ⟨_, rfl⟩
  rw [hm1] at hv
  have hm1b : m1 ≤ 100000000000000 := by rw [← hm1]; split <;> omega
  obtain ⟨m2, hm2⟩ : ∃ m2, (if m1 % 2 = odd then m1 else m1 + 1) = m2 := ⟨_, rfl⟩
  simp only [hm2] at hv
  have hm2b : m2 ≤ 100000000000001 := by rw [← hm2]; split <;> omega
  obtain ⟨q, hq⟩ : ∃ q, (if a < 0 then -(m2 : Int) else (m2 : Int)) = q := ⟨_, rfl⟩
  rw [hq] at hv
  have hqb : -100000000000001 ≤ q ∧ q ≤ 100000000000001 := by rw [← hq]; split <;> omega
  obtain ⟨n, ok, hn⟩ : ∃ n ok, intS q = (n, ok) := ⟨_, _, rfl⟩
  rw [hn] at hv
  have HN := Lib.hid fun w => int_any q n ok w (by omega) hn
  have HC := Lib.hid fun w => counted_v n ok v w hv
  clear hn hv hqb
  rw [V.val_eq] at HC ⊢
  generalize v.ty = tv at *
  generalize v.raw = xv at *
  have HQ := Lib.hid hq
  clear hq
  cases k
  all_goals
    simp only [Bool.false_eq_true, if_false, if_true] at hm1
    by_cases hp : m1 % 2 = odd
    all_goals
      first | rw [if_pos hp] at hm2 | rw [if_neg hp] at hm2
      by_cases hneg : a < 0
      all_goals
        have hQ := HQ.out
        first | rw [if_pos hneg] at hQ | rw [if_neg hneg] at hQ
        subst hm2
        subst hm1
        subst hQ
        clear HQ
        have hpi : (((m + 0 : Nat) : Int) % 2 == (odd : Int)) = true ∨ True := .inr trivial
        clear hpi
        go_enter Tryz.func57, Tryz.ntmps57
        go_wp2_with (first
          | (go_at_call 41; refine (HA.out _).mono ?_; rintro e w' ⟨rfl, rfl⟩)
          | (go_at_call 114; refine (HW.out _).mono ?_; rintro e w' ⟨rfl, rfl⟩)
          | (go_at_call 121; refine (HI.out _).mono ?_; rintro e w' ⟨rfl, rfl⟩)
          | (go_at_call 120; refine (HN.out _).mono ?_; rintro e w' ⟨rfl, rfl⟩)
          | (go_at_call 43; refine (HC.out _).mono ?_; rintro e w' ⟨rfl, rfl⟩))
        go_ret
        exact ⟨rfl, rfl⟩
end Go.Proofs.YtkobkeopajohiaaGreatDoor
