/-
  CONTRACTS of maths.Has and of the law helper Few.
-/
import Derived.Test.YtkobkeopajohiaaGreatDoorF1
namespace Go.Proofs.YtkobkeopajohiaaGreatDoor
open Go.RowKit Go.Lib
set_option maxRecDepth 100000 in
theorem has_any (s : ByteArray) (a b : Int) (w : World) (h : lim s = (a, b)) (k : Bool) (hk : decide (0 < b) = k) :
    Calls Tryz.prog 10 #[.string s] w fun e w' => e = .returned (.bool k) ∧ w = w' := by
  have HL := Lib.hid fun w => limits_any s w
  rw [h] at HL
  clear h
  have HK := Lib.hid hk
  clear hk
  go_enter Tryz.func10, Tryz.ntmps10
  go_wp2_with (first | (go_at_call 38; refine (HL.out _).mono ?_; rintro e w' ⟨rfl, rfl⟩))
  go_ret
  exact ⟨by rw [← HK.out]; rfl, rfl⟩
set_option maxRecDepth 100000 in
theorem few_any (a : Option Addr) (n cap : Nat) (k : Nat) (hk : k = min n 32) (hn : n ≤ cap) (hc : cap ≤ 9223372036854775807) (w : World) :
    Calls Tryz.prog 8 #[.slice a n cap, .int .i64 32] w fun e w' => ∃ c, e = .returned (.slice a k c) ∧ k ≤ c ∧ w = w' := by
  by_cases h : 32 < n
  · obtain rfl : k = 32 := by omega
    clear hk
    go_enter Tryz.func8, Tryz.ntmps8
    go_wp2
    all_goals go_ret
    all_goals exact ⟨_, rfl, by omega, rfl⟩
  · obtain rfl : k = n := by omega
    clear hk
    go_enter Tryz.func8, Tryz.ntmps8
    go_wp2
    all_goals go_ret
    all_goals exact ⟨_, rfl, hn, rfl⟩
end Go.Proofs.YtkobkeopajohiaaGreatDoor
