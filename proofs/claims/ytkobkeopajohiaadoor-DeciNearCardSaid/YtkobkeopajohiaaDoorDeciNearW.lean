/-
  THE WALK of the law DeciNear: a rounded number is at most half of its last place away, and rounded again it stays.
-/
import Derived.Test.YtkobkeopajohiaaDoorC5
import Derived.Test.YtkobkeopajohiaaDoorPl2
import Derived.LoopTactic

namespace Go.Proofs.YtkobkeopajohiaaDoor
open Go.RowKit

theorem ten_le (j : Nat) (h : j ≤ 3) : 10 ^ j ≤ 1000 := Nat.le_trans (Nat.pow_le_pow_right (by omega) h) (by decide)

theorem deciNear_walk (a p : Int) (w : World) (hM : GM w) (hT : GT w) (hP : GP w) :
    Calls Tryd.prog 4 #[.int .i64 a, .int .i64 p] w fun e w' => e = .returned (.bool true) ∧ Below w.heap.size w w' := by
  by_cases ha : -999999999999999999 ≤ a ∧ a ≤ 999999999999999999
  · have HA := Lib.hid ha
    by_cases hp0 : p < 0
    · clear ha
      go_enter Tryd.func4, Tryd.ntmps4
      go_wp2_with (first
        | (go_at_call 14; refine (good_yes a _ HA.out).mono ?_; rintro e w' ⟨rfl, rfl⟩)
        | (go_at_call 15; refine (awake01 _ hM hT hP).mono ?_; rintro e w3 ⟨rfl, hb3⟩))
      go_ret
      exact ⟨rfl, hb3⟩
    · by_cases hp4 : 4 < p
      · clear ha
        go_enter Tryd.func4, Tryd.ntmps4
        go_wp2_with (first
          | (go_at_call 14; refine (good_yes a _ HA.out).mono ?_; rintro e w' ⟨rfl, rfl⟩)
          | (go_at_call 15; refine (awake01 _ hM hT hP).mono ?_; rintro e w3 ⟨rfl, hb3⟩))
        go_ret
        exact ⟨rfl, hb3⟩
      · obtain ⟨r, ok, hr⟩ : ∃ r ok, Tab.roundS a p = (r, ok) := ⟨_, _, rfl⟩
        have HR := Lib.hid (round_is a p r ok w hT ha hr)
        cases ok with
        | false =>
          clear ha hr
          go_enter Tryd.func4, Tryd.ntmps4
          go_wp2_with (first
            | (go_at_call 14; refine (good_yes a _ HA.out).mono ?_; rintro e w' ⟨rfl, rfl⟩)
            | (go_at_call 18; refine HR.out.mono ?_; rintro e w' ⟨rfl, rfl⟩)
            | (go_at_call 15; refine (awake01 _ hM hT hP).mono ?_; rintro e w3 ⟨rfl, hb3⟩))
          go_ret
          exact ⟨rfl, hb3⟩
        | true =>
          obtain ⟨⟨r0, r1⟩, l2, l3, l4⟩ := Tab.near_law a p ha (by omega) r hr
          have HR2 := Lib.hid (round_is r p r true w hT ⟨r0, r1⟩ l2)
          obtain ⟨a0, a1⟩ := ha
          have HL3 := Lib.hid l3
          have HL4 := Lib.hid l4
          clear hr l2 l3 l4
          go_enter Tryd.func4, Tryd.ntmps4
          go_wp2_with (first
            | (go_at_call 14; refine (good_yes a _ HA.out).mono ?_; rintro e w' ⟨rfl, rfl⟩)
            | (go_at_call 18; refine HR.out.mono ?_; rintro e w' ⟨rfl, rfl⟩))
          go_loop [7, 8] (fun u i => ∃ j x : Nat, u = .int .i64 x ∧ i = .int .i64 (p + j) ∧ p + j ≤ 4 ∧ Hid (x = 10 ^ j)) (fun _ i => (4 - RowKit.intOf i).toNat)
          case atStart => exact ⟨0, 1, rfl, by simp, by omega, rfl⟩
          case round =>
            obtain ⟨j, x, rfl, rfl, hj, hx⟩ := hrel
            by_cases hlt : p + j < 4
            · have hx3 : x ≤ 1000 := by have := hx.out; rw [this]; exact ten_le j (by omega)
              go_wp2
              go_round
              case rel => exact ⟨j + 1, x * 10, by go_num, by simp only [Value.int.injEq, true_and]; omega, by omega, by have := hx.out; rw [this]; rfl⟩
              case measure => simp [RowKit.intOf]; omega
            · have hj4 : (4 - p).toNat = j := by omega
              have hx1 : 1 ≤ x := by have := hx.out; rw [this]; exact Nat.pow_pos (by omega)
              have h3 : 2 * ((a - r).natAbs : Int) ≤ (x : Int) := by have := HL3.out; rw [hj4] at this; rw [hx.out]; exact this
              have h4 : (r.tmod (x : Int) == 0) = true := by have := HL4.out; rw [hj4] at this; rw [hx.out, this]; rfl
              have h5 : (0 : Int) ≤ ((a - r).natAbs : Int) := by omega
              have hx0 : ¬ (x : Int) = 0 := by omega
              have hx2 : ((x : Int) == 0) = false := by simp; omega
              have hd : x ≤ 10000 := by have := hx.out; rw [this]; exact Nat.le_trans (Nat.pow_le_pow_right (by omega) (show j ≤ 4 by omega)) (by decide)
              clear hx hj4 hx0
              go_wp2_with (first
                | (go_at_call 18; refine HR2.out.mono ?_; rintro e w' ⟨rfl, rfl⟩)
                | (go_at_call 19; refine (abs_any (a - r) _ (by omega) (by omega)).mono ?_; rintro e w' ⟨rfl, rfl⟩)
                | (go_at_call 15; refine (awake01 _ hM hT hP).mono ?_; rintro e w3 ⟨rfl, hb3⟩))
              go_ret
              refine ⟨ret_bool ?_, hb3⟩
              simp
  · have HA := Lib.hid ha
    clear ha
    go_enter Tryd.func4, Tryd.ntmps4
    go_wp2_with (first
      | (go_at_call 14; refine (good_no a _ HA.out).mono ?_; rintro e w' ⟨rfl, rfl⟩)
      | (go_at_call 15; refine (awake01 _ hM hT hP).mono ?_; rintro e w3 ⟨rfl, hb3⟩))
    go_ret
    exact ⟨rfl, hb3⟩
end Go.Proofs.YtkobkeopajohiaaDoor
