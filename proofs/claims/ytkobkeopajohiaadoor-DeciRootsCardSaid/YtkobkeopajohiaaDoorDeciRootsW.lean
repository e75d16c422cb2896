/-
  THE WALK of the law DeciRoots: a root's square isn't above, that of the next number is.
-/
import Derived.Test.YtkobkeopajohiaaDoorC5
import Derived.Test.YtkobkeopajohiaaDoorPl2
import Derived.LoopTactic

namespace Go.Proofs.YtkobkeopajohiaaDoor
open Go.RowKit

theorem deciRoots_walk (a : Int) (w : World) (hM : GM w) (hT : GT w) (hP : GP w) :
    Calls Tryd.prog 5 #[.int .i64 a] w fun e w' => e = .returned (.bool true) ∧ Below w.heap.size w w' := by
  by_cases ha : -999999999999999999 ≤ a ∧ a ≤ 999999999999999999
  · have HA := Lib.hid ha
    by_cases hr : a < 0
    · clear ha
      go_enter Tryd.func5, Tryd.ntmps5
      go_wp2_with (first
        | (go_at_call 14; refine (good_yes a _ HA.out).mono ?_; rintro e w' ⟨rfl, rfl⟩)
        | (go_at_call 15; refine (awake01 _ hM hT hP).mono ?_; rintro e w3 ⟨rfl, hb3⟩))
      go_ret
      exact ⟨rfl, hb3⟩
    · by_cases hr2 : 10000000000 < a
      · clear ha
        go_enter Tryd.func5, Tryd.ntmps5
        go_wp2_with (first
          | (go_at_call 14; refine (good_yes a _ HA.out).mono ?_; rintro e w' ⟨rfl, rfl⟩)
          | (go_at_call 15; refine (awake01 _ hM hT hP).mono ?_; rintro e w3 ⟨rfl, hb3⟩))
        go_ret
        exact ⟨rfl, hb3⟩
      · obtain ⟨r1, r2, r3⟩ := Tab.root_law a (by omega) (by omega)
        have hc := Lib.hid (sqrt_any a w (by omega) (by omega))
        have r0 : (0 : Int) ≤ (Tab.sqrtS a : Int) := by omega
        generalize (Tab.sqrtS a : Int) = r at *
        have q1 : 0 ≤ r * r := Int.mul_nonneg r0 r0
        have q3 : (r + 1) * (r + 1) = r * r + 2 * r + 1 := by rw [Int.add_mul, Int.mul_add]; omega
        rw [q3] at r3
        have q2 : 0 ≤ (r + 1) * (r + 1) := by omega
        have q4 : (r + 1) * (r + 1) ≤ 200000000000000 := by omega
        have r3' : a * 10000 < (r + 1) * (r + 1) := by omega
        clear ha q3 r3
        go_enter Tryd.func5, Tryd.ntmps5
        go_wp2_with (first
          | (go_at_call 14; refine (good_yes a _ HA.out).mono ?_; rintro e w' ⟨rfl, rfl⟩)
          | (go_at_call 20; refine hc.out.mono ?_; rintro e w' ⟨rfl, rfl⟩)
          | (go_at_call 15; refine (awake01 _ hM hT hP).mono ?_; rintro e w3 ⟨rfl, hb3⟩))
        go_ret
        exact ⟨ret_bool (by simp), hb3⟩
  · have HA := Lib.hid ha
    clear ha
    go_enter Tryd.func5, Tryd.ntmps5
    go_wp2_with (first
      | (go_at_call 14; refine (good_no a _ HA.out).mono ?_; rintro e w' ⟨rfl, rfl⟩)
      | (go_at_call 15; refine (awake01 _ hM hT hP).mono ?_; rintro e w3 ⟨rfl, hb3⟩))
    go_ret
    exact ⟨rfl, hb3⟩
end Go.Proofs.YtkobkeopajohiaaDoor
