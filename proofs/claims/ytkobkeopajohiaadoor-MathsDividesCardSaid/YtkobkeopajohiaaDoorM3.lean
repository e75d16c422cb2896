/-
  CONTRACT of deci.Mul.
-/
import Derived.Test.YtkobkeopajohiaaDoorM2
import Derived.Test.YtkobkeopajohiaaDoorV8
namespace Go.Proofs.YtkobkeopajohiaaDoor
open Go.RowKit Go.Lib

/-- the product -/
def mulR (a b : Int) : Int × Bool := if (quotT (a.natAbs * b.natAbs)).2 then Tab.made (!decide (a < 0) == decide (b < 0)) (quotT (a.natAbs * b.natAbs)).1 else (0, false)
theorem quotT_le (P : Nat) : (quotT P).1 ≤ 1000000000000000000 := by
  unfold quotT
  split
  · exact Nat.zero_le _
  · split <;> simp only <;> omega

set_option maxHeartbeats 3200000 in
set_option maxRecDepth 100000 in
theorem mul_any (a b n : Int) (ok : Bool) (w : World) (ha : -999999999999999999 ≤ a ∧ a ≤ 999999999999999999) (hb : -999999999999999999 ≤ b ∧ b ≤ 999999999999999999) (h : mulR a b = (n, ok)) :
    Calls Tryd.prog 110 #[.int .i64 a, .int .i64 b] w fun e w' => e = .returned (.tuple #[.int .i64 n, .bool ok]) ∧ ∃ n, w' = w.drewN n := by
  obtain ⟨x, hx⟩ : ∃ x, a.natAbs = x := ⟨_, rfl⟩
  obtain ⟨y, hy⟩ : ∃ y, b.natAbs = y := ⟨_, rfl⟩
  have HA := Lib.hid fun w => size_any a w (by omega) (by omega)
  have HB := Lib.hid fun w => size_any b w (by omega) (by omega)
  unfold mulR at h
  rw [hx] at HA h
  rw [hy] at HB h
  have hP : x * y ≤ 1000000000000000000 * 1000000000000000000 := Nat.mul_le_mul (by omega) (by omega)
  obtain ⟨hi, lo, hi1, lo1, hP2⟩ : ∃ hi lo : Nat, hi < 18446744073709551616 ∧ lo < 18446744073709551616 ∧ x * y = hi * 18446744073709551616 + lo := ⟨x * y / 18446744073709551616, x * y % 18446744073709551616, by omega, by omega, by omega⟩
  have HM := Lib.hid fun w => mul_is x y hi lo w (by omega) (by omega) (by omega) (by omega) (by omega) (by rw [hP2]; omega)
  obtain ⟨q, k, hq⟩ : ∃ q k, quotT (x * y) = (q, k) := ⟨_, _, rfl⟩
  have hql := quotT_le (x * y)
  rw [hq] at h hql
  rw [hP2] at hq
  have HQ := Lib.hid fun w => quot_ten hi lo q k w hi1 lo1 hq
  have hql : q ≤ 1000000000000000000 := hql
  simp only at h
  clear hq hP hP2 hx hy ha hb
  cases k
  · simp only [Bool.false_eq_true, if_false, Prod.mk.injEq] at h
    obtain ⟨rfl, rfl⟩ := h
    go_enter Tryd.func110, Tryd.ntmps110
    go_wp2_with (first
      | (go_at_call_of 57 (Value.int IntKind.i64 a); refine (HA.out _).mono ?_; rintro e w' ⟨rfl, rfl⟩)
      | (go_at_call_of 57 (Value.int IntKind.i64 b); refine (HB.out _).mono ?_; rintro e w' ⟨rfl, rfl⟩)
      | (go_at_call 61; refine (HM.out _).mono ?_; rintro e w' ⟨rfl, rfl⟩)
      | (go_at_call 95; refine (HQ.out _).mono ?_; rintro e w' ⟨rfl, n, rfl⟩))
    go_ret2
    exact ⟨rfl, _, rfl⟩
  · simp only [if_true] at h
    have HMd := Lib.hid h
    clear h
    go_enter Tryd.func110, Tryd.ntmps110
    go_wp2_with (first
      | (go_at_call_of 57 (Value.int IntKind.i64 a); refine (HA.out _).mono ?_; rintro e w' ⟨rfl, rfl⟩)
      | (go_at_call_of 57 (Value.int IntKind.i64 b); refine (HB.out _).mono ?_; rintro e w' ⟨rfl, rfl⟩)
      | (go_at_call 61; refine (HM.out _).mono ?_; rintro e w' ⟨rfl, rfl⟩)
      | (go_at_call 95; refine (HQ.out _).mono ?_; rintro e w' ⟨rfl, n, rfl⟩)
      | (go_at_call 56; refine (made_any _ _ _ (by omega)).mono ?_; rintro e w' ⟨rfl, rfl⟩))
    go_ret2
    exact ⟨ret_ib (congrArg Prod.fst HMd.out) (congrArg Prod.snd HMd.out), _, rfl⟩

/-- the product of two whole numbers -/
theorem mul_whole (q n : Nat) (w : World) (hq : q ≤ 1000000) (hn : n ≤ 1000000) :
    Calls Tryd.prog 110 #[.int .i64 ((q : Int) * 10000), .int .i64 ((n : Int) * 10000)] w fun e w' => e = .returned (.tuple #[.int .i64 (((q * n : Nat) : Int) * 10000), .bool true]) ∧ Below w.heap.size w w' := by
  have hqn : q * n ≤ 1000000 * 1000000 := Nat.mul_le_mul hq hn
  have hP : ((q : Int) * 10000).natAbs * ((n : Int) * 10000).natAbs = q * n * 10000 * 10000 := by
    rw [show ((q : Int) * 10000).natAbs = q * 10000 by omega, show ((n : Int) * 10000).natAbs = n * 10000 by omega, Nat.mul_assoc q, Nat.mul_comm 10000 (n * 10000), ← Nat.mul_assoc q, ← Nat.mul_assoc q]
  have hT : quotT (q * n * 10000 * 10000) = (q * n * 10000, true) := by
    generalize q * n = p at *
    unfold quotT
    rw [if_neg (by omega), if_neg (by omega)]
    congr 1
    omega
  refine (mul_any _ _ (((q * n : Nat) : Int) * 10000) true w (by omega) (by omega) ?_).mono fun e w' ⟨h1, k, h2⟩ => ⟨h1, by rw [h2]; exact below_drewN (Below.refl _ _) k⟩
  unfold mulR
  rw [hP, hT]
  simp only [if_true]
  rw [decide_eq_false (show ¬ (q : Int) * 10000 < 0 by omega), decide_eq_false (show ¬ (n : Int) * 10000 < 0 by omega)]
  unfold Tab.made
  rw [if_neg (by omega)]
  simp
end Go.Proofs.YtkobkeopajohiaaDoor
