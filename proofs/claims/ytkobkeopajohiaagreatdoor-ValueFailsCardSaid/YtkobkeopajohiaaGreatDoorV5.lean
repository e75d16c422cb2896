/-
  NUMBERS: 10 to a power below nought.
-/
import Derived.Test.YtkobkeopajohiaaGreatDoorV3
namespace Go.Proofs.YtkobkeopajohiaaGreatDoor
open Go.RowKit Go.Lib

set_option maxRecDepth 100000 in
theorem div_lo (a b q : Int) (w : World) (ha : 0 ≤ a ∧ a ≤ 999999999999999) (hb : 1 ≤ b ∧ b ≤ 999999999999999999) (h : quotL (a * 10000) b = (q, true)) (hq : 0 ≤ q ∧ q ≤ 999999999999999999) :
    Calls Tryz.prog 96 #[.int .i64 a, .int .i64 b] w fun e w' => e = .returned (.tuple #[.int .i64 q, .bool true]) ∧ ∃ n, w' = w.drewN n := by
  have h0 : 0 ≤ a * 10000 := by omega
  have h1 : a * 10000 < 18446744073709551616 := by omega
  have HQ := Lib.hid fun w => quot_is (a * 10000) b q true w h0 h1 (by omega) (by omega) h
  have HM := Lib.hid fun w => mul_ii a 10000 0 (a * 10000) w ha.1 (by omega) (by omega) (by omega) (by omega) h0 h1 (by omega)
  generalize a * 10000 = p at *
  clear h h0 h1
  obtain ⟨a0, a1⟩ := ha
  obtain ⟨b0, b1⟩ := hb
  obtain ⟨q0, q1⟩ := hq
  have hb' : (b == 0) = false := by rw [beq_eq_false_iff_ne]; omega
  have e1 : (a.natAbs : Int) = a := by omega
  have e2 : (b.natAbs : Int) = b := by omega
  have HA := Lib.hid fun w => size_any a w (by omega) (by omega)
  have HB := Lib.hid fun w => size_any b w (by omega) (by omega)
  rw [e1] at HA
  rw [e2] at HB
  clear e1 e2
  go_enter Tryz.func96, Tryz.ntmps96
  go_wp2_with (first
    | (go_at_call_of 115 (Value.int IntKind.i64 a); refine (HA.out _).mono ?_; rintro e w' ⟨rfl, rfl⟩)
    | (go_at_call_of 115 (Value.int IntKind.i64 b); refine (HB.out _).mono ?_; rintro e w' ⟨rfl, rfl⟩)
    | (go_at_call 122; refine (HM.out _).mono ?_; rintro e w' ⟨rfl, rfl⟩)
    | (go_at_call 142; refine (HQ.out _).mono ?_; rintro e w' ⟨rfl, n, rfl⟩)
    | (go_at_call 116; refine (made_int _ _ _ (by omega) (by omega)).mono ?_; rintro e w' ⟨rfl, rfl⟩))
  go_ret2
  have hm : (!decide (a < 0) == decide (b < 0)) = false := by rw [decide_eq_false (show ¬ a < 0 by omega), decide_eq_false (show ¬ b < 0 by omega)]; rfl
  have hn : ¬ 999999999999999999 < q.toNat := by omega
  exact ⟨ret_ib (by rw [hm, Tab.made, if_neg hn]; show ((q.toNat : Nat) : Int) = q; omega) (by rw [hm, Tab.made, if_neg hn]), _, rfl⟩

set_option maxHeartbeats 1600000 in
set_option maxRecDepth 100000 in
/-- 10 to the power of so many places, below nought -/
theorem pow_tens (n : Int) (w : World) (h : n = 0 ∨ n = 1 ∨ n = 2 ∨ n = 3 ∨ n = 4) :
    Calls Tryz.prog 117 #[.int .i64 100000, .int .i64 (-n)] w fun e w' => e = .returned (.tuple #[.int .i64 (10000 / 10 ^ n.toNat), .bool true]) ∧ ∃ n, w' = w.drewN n := by
  have m1 := Lib.hid fun w => mul_lo 10000 100000 100000 w (by decide) (by decide) (by decide) (by decide) (by decide)
  have m2 := Lib.hid fun w => mul_lo 100000 100000 1000000 w (by decide) (by decide) (by decide) (by decide) (by decide)
  have m3 := Lib.hid fun w => mul_lo 1000000 100000 10000000 w (by decide) (by decide) (by decide) (by decide) (by decide)
  have m4 := Lib.hid fun w => mul_lo 10000000 100000 100000000 w (by decide) (by decide) (by decide) (by decide) (by decide)
  have d1 := Lib.hid fun w => div_lo 10000 100000 1000 w (by decide) (by decide) (by decide) (by decide)
  have d2 := Lib.hid fun w => div_lo 10000 1000000 100 w (by decide) (by decide) (by decide) (by decide)
  have d3 := Lib.hid fun w => div_lo 10000 10000000 10 w (by decide) (by decide) (by decide) (by decide)
  have d4 := Lib.hid fun w => div_lo 10000 100000000 1 w (by decide) (by decide) (by decide) (by decide)
  rcases h with rfl | rfl | rfl | rfl | rfl <;> simp only [Int.reduceToNat, Int.reducePow, Int.reduceDiv, Int.reduceNeg] <;>
  · go_enter Tryz.func117, Tryz.ntmps117
    go_wp2
    refine wp_loop_rounds 6 ?_
    repeat any_goals (rw [rounds_succ]; go_wp2_with (first
      | (go_at_call_of 95 (Value.int IntKind.i64 10000); refine (m1.out _).mono ?_; rintro e w' ⟨rfl, n, rfl⟩)
      | (go_at_call_of 95 (Value.int IntKind.i64 1000000); refine (m3.out _).mono ?_; rintro e w' ⟨rfl, n, rfl⟩)
      | (go_at_call_of 95 (Value.int IntKind.i64 10000000); refine (m4.out _).mono ?_; rintro e w' ⟨rfl, n, rfl⟩)
      | (go_at_call_of 95 (Value.int IntKind.i64 100000); refine (m2.out _).mono ?_; rintro e w' ⟨rfl, n, rfl⟩)
      | (go_at_call_of 96 (Value.int IntKind.i64 100000); refine (d1.out _).mono ?_; rintro e w' ⟨rfl, n, rfl⟩)
      | (go_at_call_of 96 (Value.int IntKind.i64 1000000); refine (d2.out _).mono ?_; rintro e w' ⟨rfl, n, rfl⟩)
      | (go_at_call_of 96 (Value.int IntKind.i64 10000000); refine (d3.out _).mono ?_; rintro e w' ⟨rfl, n, rfl⟩)
      | (go_at_call_of 96 (Value.int IntKind.i64 100000000); refine (d4.out _).mono ?_; rintro e w' ⟨rfl, n, rfl⟩)))
    all_goals go_ret2
    all_goals exact ⟨rfl, by first | exact ⟨_, rfl⟩ | exact ⟨0, rfl⟩⟩
end Go.Proofs.YtkobkeopajohiaaGreatDoor
