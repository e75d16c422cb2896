/-
  CONTRACT of deci.quot at the divisor 10000.
-/
import Derived.Test.YtkobkeopajohiaaDoorM1
import Derived.Test.YtkobkeopajohiaaDoorT1
namespace Go.Proofs.YtkobkeopajohiaaDoor
open Go.RowKit Go.Lib

/-- the rounded quotient by 10000 -/
def quotT (P : Nat) : Nat × Bool :=
  if 999999999999999999 < P / 10000 then (0, false)
  else if 10000 - P % 10000 ≤ P % 10000 then (P / 10000 + 1, decide (P / 10000 + 1 ≤ 999999999999999999)) else (P / 10000, true)
theorem div64_t (hi lo : Nat) (w : World) (h1 : hi < 10000) (hl : lo < 18446744073709551616) :
    Calls Tryd.prog 120 #[.int .u64 hi, .int .u64 lo, .int .u64 10000] w fun e w' => e = .returned (.tuple #[.int .u64 (((hi * 18446744073709551616 + lo) / 10000 : Nat) : Int), .int .u64 (((hi * 18446744073709551616 + lo) % 10000 : Nat) : Int)]) ∧ ∃ n, w' = w.drewN n := by
  by_cases h0 : 0 < hi
  · exact div64_ten hi lo w h0 h1 hl
  · obtain rfl : hi = 0 := by omega
    have := div64_zero lo 10000 w (by omega) (by omega) (by decide) (by decide)
    rw [show (0 : Nat) * 18446744073709551616 + lo = lo by omega]
    exact this
set_option maxHeartbeats 3200000 in
set_option maxRecDepth 100000 in
theorem quot_ten (hi lo q : Nat) (ok : Bool) (w : World) (h1 : hi < 18446744073709551616) (hl : lo < 18446744073709551616) (h : quotT (hi * 18446744073709551616 + lo) = (q, ok)) :
    Calls Tryd.prog 95 #[.int .u64 hi, .int .u64 lo, .int .u64 10000] w fun e w' => e = .returned (.tuple #[.int .u64 q, .bool ok]) ∧ ∃ n, w' = w.drewN n := by
  by_cases hh : hi < 10000
  · have HD := Lib.hid fun w => div64_t hi lo w hh hl
    unfold quotT at h
    have hq1 : (hi * 18446744073709551616 + lo) / 10000 < 18446744073709551616 := by omega
    have hr1 : (hi * 18446744073709551616 + lo) % 10000 < 10000 := Nat.mod_lt _ (by omega)
    clear hl h1
    generalize (hi * 18446744073709551616 + lo) / 10000 = d at *
    generalize (hi * 18446744073709551616 + lo) % 10000 = r at *
    by_cases hd : 999999999999999999 < d
    · rw [if_pos hd] at h
      obtain ⟨rfl, rfl⟩ := Prod.mk.inj h
      clear h
      go_enter Tryd.func95, Tryd.ntmps95
      go_wp2_with (first
        | (go_at_call 120; refine (HD.out _).mono ?_; rintro e w' ⟨rfl, n, rfl⟩))
      go_ret2
      exact ⟨rfl, _, rfl⟩
    · rw [if_neg hd] at h
      by_cases hr : 10000 - r ≤ r
      · rw [if_pos hr] at h
        obtain ⟨hk0, hk⟩ := Prod.mk.inj h
        have HK := Lib.hid hk
        have HK0 := Lib.hid hk0
        clear h hk hk0
        have hr' : (10000 : Int) - r ≤ r := by omega
        go_enter Tryd.func95, Tryd.ntmps95
        go_wp2_with (first
          | (go_at_call 120; refine (HD.out _).mono ?_; rintro e w' ⟨rfl, n, rfl⟩))
        all_goals go_ret2
        all_goals exact ⟨ret_ib (by have := HK0.out; omega) (by rw [← HK.out]; first | (apply decide_eq_decide.2; omega) | exact (decide_eq_true (by omega)).symm | exact (decide_eq_false (by omega)).symm), _, rfl⟩
      · rw [if_neg hr] at h
        obtain ⟨rfl, rfl⟩ := Prod.mk.inj h
        clear h
        go_enter Tryd.func95, Tryd.ntmps95
        go_wp2_with (first
          | (go_at_call 120; refine (HD.out _).mono ?_; rintro e w' ⟨rfl, n, rfl⟩))
        all_goals go_ret2
        all_goals exact ⟨ret_ib rfl (by first | rfl | exact decide_eq_true (by omega)), _, rfl⟩
  · have hq : 999999999999999999 < (hi * 18446744073709551616 + lo) / 10000 := by omega
    unfold quotT at h
    rw [if_pos hq] at h
    obtain ⟨rfl, rfl⟩ := Prod.mk.inj h
    clear h hq
    go_enter Tryd.func95, Tryd.ntmps95
    go_wp2
    go_ret2
    exact ⟨rfl, 0, rfl⟩
end Go.Proofs.YtkobkeopajohiaaDoor
