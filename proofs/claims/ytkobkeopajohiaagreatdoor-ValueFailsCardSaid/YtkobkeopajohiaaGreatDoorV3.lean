/-
  NUMBERS: products and quotients within one word; steps of places.
-/
import Derived.Test.YtkobkeopajohiaaGreatDoorV2
import Derived.Test.YtkobkeopajohiaaGreatDoorT1
namespace Go.Proofs.YtkobkeopajohiaaGreatDoor
open Go.RowKit Go.Lib

/-- the rounded quotient that lies within one word -/
def quotL (lo y : Int) : Int × Bool :=
  if 999999999999999999 < lo / y then (0, false)
  else if y - lo % y ≤ lo % y then (lo / y + 1, decide (lo / y + 1 ≤ 999999999999999999)) else (lo / y, true)

set_option maxRecDepth 100000 in
theorem quot_is (lo y q : Int) (ok : Bool) (w : World) (h0 : 0 ≤ lo) (h1 : lo < 18446744073709551616) (hy : 1 ≤ y) (hy1 : y < 18446744073709551616) (h : quotL lo y = (q, ok)) :
    Calls Tryz.prog 142 #[.int .u64 0, .int .u64 lo, .int .u64 y] w fun e w' => e = .returned (.tuple #[.int .u64 q, .bool ok]) ∧ ∃ n, w' = w.drewN n := by
  have b0 := Int.ediv_nonneg h0 (show 0 ≤ y by omega)
  have b1 := Int.ediv_le_self y h0
  have hr0 := Int.emod_nonneg lo (show y ≠ 0 by omega)
  have hr1 := Int.emod_lt_of_pos lo (show 0 < y by omega)
  have HD := Lib.hid fun w => div64_zero lo y w h0 h1 hy hy1
  unfold quotL at h
  have hq1 : lo / y < 18446744073709551616 := by omega
  clear h0 h1 b1
  generalize lo / y = d at *
  generalize lo % y = r at *
  by_cases hd : 999999999999999999 < d
  · rw [if_pos hd] at h
    obtain ⟨rfl, rfl⟩ := Prod.mk.inj h
    clear h
    go_enter Tryz.func142, Tryz.ntmps142
    go_wp2_with (first
      | (go_at_call 152; refine (HD.out _).mono ?_; rintro e w' ⟨rfl, n, rfl⟩))
    go_ret2
    exact ⟨rfl, _, rfl⟩
  · rw [if_neg hd] at h
    by_cases hr : y - r ≤ r
    · rw [if_pos hr] at h
      obtain ⟨rfl, hk⟩ := Prod.mk.inj h
      have HK := Lib.hid hk
      clear h hk
      go_enter Tryz.func142, Tryz.ntmps142
      go_wp2_with (first
        | (go_at_call 152; refine (HD.out _).mono ?_; rintro e w' ⟨rfl, n, rfl⟩))
      go_ret2
      exact ⟨ret_ib rfl (by rw [← HK.out]), _, rfl⟩
    · rw [if_neg hr] at h
      obtain ⟨rfl, rfl⟩ := Prod.mk.inj h
      clear h
      go_enter Tryz.func142, Tryz.ntmps142
      go_wp2_with (first
        | (go_at_call 152; refine (HD.out _).mono ?_; rintro e w' ⟨rfl, n, rfl⟩))
      go_ret2
      exact ⟨ret_ib rfl (by first | rfl | exact decide_eq_true (by omega)), _, rfl⟩

set_option maxRecDepth 100000 in
/-- a product of two numbers that are not below nought, within one word, and not too great -/
theorem mul_lo (a b q : Int) (w : World) (ha : 0 ≤ a ∧ a ≤ 999999999999999999) (hb : 0 ≤ b ∧ b ≤ 999999999999999999) (h1 : a * b < 18446744073709551616) (h : quotL (a * b) 10000 = (q, true)) (hq : 0 ≤ q ∧ q ≤ 999999999999999999) :
    Calls Tryz.prog 95 #[.int .i64 a, .int .i64 b] w fun e w' => e = .returned (.tuple #[.int .i64 q, .bool true]) ∧ ∃ n, w' = w.drewN n := by
  have h0 := Int.mul_nonneg ha.1 hb.1
  have HQ := Lib.hid fun w => quot_is (a * b) 10000 q true w h0 h1 (by omega) (by omega) h
  have HM := Lib.hid fun w => mul_ii a b 0 (a * b) w ha.1 (by omega) hb.1 (by omega) (by omega) h0 h1 (by omega)
  generalize a * b = p at *
  clear h h0 h1
  obtain ⟨a0, a1⟩ := ha
  obtain ⟨b0, b1⟩ := hb
  obtain ⟨q0, q1⟩ := hq
  have e1 : (a.natAbs : Int) = a := by omega
  have e2 : (b.natAbs : Int) = b := by omega
  have HA := Lib.hid fun w => size_any a w (by omega) (by omega)
  have HB := Lib.hid fun w => size_any b w (by omega) (by omega)
  rw [e1] at HA
  rw [e2] at HB
  clear e1 e2
  go_enter Tryz.func95, Tryz.ntmps95
  go_wp2_with (first
    | (go_at_call_of 115 (Value.int IntKind.i64 a); refine (HA.out _).mono ?_; rintro e w' ⟨rfl, rfl⟩)
    | (go_at_call_of 115 (Value.int IntKind.i64 b); refine (HB.out _).mono ?_; rintro e w' ⟨rfl, rfl⟩)
    | (go_at_call 122; refine (HM.out _).mono ?_; rintro e w' ⟨rfl, rfl⟩)
    | (go_at_call 142; refine (HQ.out _).mono ?_; rintro e w' ⟨rfl, n, rfl⟩)
    | (go_at_call 116; refine (made_int _ _ _ (by omega) (by omega)).mono ?_; rintro e w' ⟨rfl, rfl⟩))
  go_ret2
  have hm : (!decide (a < 0) == decide (b < 0)) = false := by rw [decide_eq_false (show ¬ a < 0 by omega), decide_eq_false (show ¬ b < 0 by omega)]; rfl
  have hn : ¬ 999999999999999999 < q.toNat := by omega
  exact ⟨ret_ib (by rw [hm, Tab.made, if_neg hn]; show ((q.toNat : Nat) : Int) = q; omega) (by rw [hm, Tab.made, if_neg hn]), _, rfl⟩

set_option maxRecDepth 100000 in
theorem unit108 (n : Int) (w : World) (h : n = 1 ∨ n = 2 ∨ n = 3 ∨ n = 4) :
    Calls Tryz.prog 118 #[.int .i64 n] w fun e w' => e = .returned (.int .i64 (10000 / 10 ^ n.toNat)) ∧ w = w' := by
  rcases h with rfl | rfl | rfl | rfl <;> simp only [Int.reduceToNat, Int.reducePow, Int.reduceDiv] <;>
  · go_enter Tryz.func118, Tryz.ntmps118
    go_wp2
    go_rounds 6
    all_goals go_ret
    all_goals exact ⟨ret_int (by decide), rfl⟩
end Go.Proofs.YtkobkeopajohiaaGreatDoor
