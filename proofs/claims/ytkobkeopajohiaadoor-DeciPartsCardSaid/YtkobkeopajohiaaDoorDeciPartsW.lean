/-
  THE WALK of the law DeciParts: a number is Floor by a step, and Mod by it; Ceil is the step above, or the same.
-/
import Derived.Test.YtkobkeopajohiaaDoorC5
import Derived.Test.YtkobkeopajohiaaDoorPl2
import Derived.LoopTactic

namespace Go.Proofs.YtkobkeopajohiaaDoor
open Go.RowKit

theorem abs_is (a : Int) (w : World) (h : -4000000000000000000 ≤ a ∧ a ≤ 4000000000000000000) :
    Calls Tryd.prog 19 #[.int .i64 a] w fun e w' => e = .returned (.int .i64 (a.natAbs : Int)) ∧ w = w' := abs_any a w h.1 h.2

theorem deciParts_walk (a s : Int) (w : World) (hM : GM w) (hT : GT w) (hP : GP w) :
    Calls Tryd.prog 6 #[.int .i64 a, .int .i64 s] w fun e w' => e = .returned (.bool true) ∧ Below w.heap.size w w' := by
  by_cases ha : -999999999999999999 ≤ a ∧ a ≤ 999999999999999999
  · by_cases hs : -999999999999999999 ≤ s ∧ s ≤ 999999999999999999
    · by_cases hs0 : s ≤ 0
      · have HA := Lib.hid ha
        have HS := Lib.hid hs
        clear ha hs
        go_enter Tryd.func6, Tryd.ntmps6
        go_wp2_with (first
          | (go_at_call_of 14 (Value.int IntKind.i64 a); refine (good_yes a _ HA.out).mono ?_; rintro e w' ⟨rfl, rfl⟩)
          | (go_at_call_of 14 (Value.int IntKind.i64 s); refine (good_yes s _ HS.out).mono ?_; rintro e w' ⟨rfl, rfl⟩)
          | (go_at_call 15; refine (awake01 _ hM hT hP).mono ?_; rintro e w3 ⟨rfl, hb3⟩))
        go_ret
        exact ⟨rfl, hb3⟩
      · obtain ⟨L1, L2⟩ := Tab.parts_law a s ha ⟨by omega, hs.2⟩
        have m0 := Int.emod_nonneg a (show s ≠ 0 by omega)
        have m1 := Int.emod_lt_of_pos a (show 0 < s by omega)
        have hf : Int.fmod a s = a % s := Int.fmod_eq_emod_of_nonneg a (by omega)
        have c1 := mod_any a s w ⟨by omega, hs.2⟩ (by omega)
        rw [hf] at c1
        have c2 := floor_any a s w ha ⟨by omega, hs.2⟩
        have c3 := ceil_any a s w ha ⟨by omega, hs.2⟩
        have b1 : -999999999999999999 ≤ (Tab.fit (a - a % s)).1 ∧ (Tab.fit (a - a % s)).1 ≤ 999999999999999999 := by unfold Tab.fit; split <;> simp <;> omega
        generalize a % s = m at *
        generalize Tab.fit (a - m) = F at *
        generalize Tab.fit (-a - (-a) % s) = G at *
        obtain ⟨f, ok⟩ := F
        obtain ⟨g, fits⟩ := G
        simp only at L1 L2 c2 c3 b1
        obtain ⟨b2, b3⟩ := b1
        obtain ⟨a0, a1⟩ := ha
        obtain ⟨s0, s1⟩ := hs
        have HA := Lib.hid (And.intro a0 a1)
        have HS := Lib.hid (And.intro s0 s1)
        have C1 := Lib.hid c1
        have C2 := Lib.hid c2
        have C3 := Lib.hid c3
        clear c1 c2 c3 hf
        cases ok with
        | false =>
          have hneg : a < 0 := L1 rfl
          clear L1 L2
          go_enter Tryd.func6, Tryd.ntmps6
          go_wp2_with (first
            | (go_at_call_of 14 (Value.int IntKind.i64 a); refine (good_yes a _ HA.out).mono ?_; rintro e w' ⟨rfl, rfl⟩)
            | (go_at_call_of 14 (Value.int IntKind.i64 s); refine (good_yes s _ HS.out).mono ?_; rintro e w' ⟨rfl, rfl⟩)
            | (go_at_call 21; refine C2.out.mono ?_; rintro e w' ⟨rfl, rfl⟩)
            | (go_at_call 22; refine C1.out.mono ?_; rintro e w' ⟨rfl, rfl⟩)
            | (go_at_call 15; refine (awake01 _ hM hT hP).mono ?_; rintro e w3 ⟨rfl, hb3⟩))
          go_ret
          refine ⟨ret_bool ?_, hb3⟩
          simp
        | true =>
          obtain ⟨L3, L4⟩ := L2 rfl
          have t1 : (f + m == a) = true := by simp [L3]
          have T1 := Lib.hid L4
          clear L1 L2 L3 L4
          cases fits with
          | false =>
            go_enter Tryd.func6, Tryd.ntmps6
            go_wp2_with (first
              | (go_at_call_of 14 (Value.int IntKind.i64 a); refine (good_yes a _ HA.out).mono ?_; rintro e w' ⟨rfl, rfl⟩)
              | (go_at_call_of 14 (Value.int IntKind.i64 s); refine (good_yes s _ HS.out).mono ?_; rintro e w' ⟨rfl, rfl⟩)
              | (go_at_call 21; refine C2.out.mono ?_; rintro e w' ⟨rfl, rfl⟩)
              | (go_at_call 22; refine C1.out.mono ?_; rintro e w' ⟨rfl, rfl⟩)
              | (go_at_call 23; refine C3.out.mono ?_; rintro e w' ⟨rfl, rfl⟩)
              | (go_at_call 15; refine (awake01 _ hM hT hP).mono ?_; rintro e w3 ⟨rfl, hb3⟩))
            go_ret
            exact ⟨rfl, hb3⟩
          | true =>
            obtain ⟨z1, z2⟩ := T1.out rfl
            by_cases hm : m = 0
            · have t2 : (m == 0) = true := by simp [hm]
              have t3 : (-g == a) = true := by simp [z1 hm]
              clear z1 z2 hm T1
              go_enter Tryd.func6, Tryd.ntmps6
              go_wp2_with (first
                | (go_at_call_of 14 (Value.int IntKind.i64 a); refine (good_yes a _ HA.out).mono ?_; rintro e w' ⟨rfl, rfl⟩)
                | (go_at_call_of 14 (Value.int IntKind.i64 s); refine (good_yes s _ HS.out).mono ?_; rintro e w' ⟨rfl, rfl⟩)
                | (go_at_call 21; refine C2.out.mono ?_; rintro e w' ⟨rfl, rfl⟩)
                | (go_at_call 22; refine C1.out.mono ?_; rintro e w' ⟨rfl, rfl⟩)
                | (go_at_call 23; refine C3.out.mono ?_; rintro e w' ⟨rfl, rfl⟩)
                | (go_at_call 15; refine (awake01 _ hM hT hP).mono ?_; rintro e w3 ⟨rfl, hb3⟩))
              go_ret
              exact ⟨rfl, hb3⟩
            · have t2 : (m == 0) = false := by simp [hm]
              have t2' : (m != 0) = true := by simp [hm]
              have t3 : (-g == f + s) = true := by simp [z2 hm]
              clear z1 z2 hm T1
              go_enter Tryd.func6, Tryd.ntmps6
              go_wp2_with (first
                | (go_at_call_of 14 (Value.int IntKind.i64 a); refine (good_yes a _ HA.out).mono ?_; rintro e w' ⟨rfl, rfl⟩)
                | (go_at_call_of 14 (Value.int IntKind.i64 s); refine (good_yes s _ HS.out).mono ?_; rintro e w' ⟨rfl, rfl⟩)
                | (go_at_call 21; refine C2.out.mono ?_; rintro e w' ⟨rfl, rfl⟩)
                | (go_at_call 22; refine C1.out.mono ?_; rintro e w' ⟨rfl, rfl⟩)
                | (go_at_call 23; refine C3.out.mono ?_; rintro e w' ⟨rfl, rfl⟩)
                | (go_at_call 15; refine (awake01 _ hM hT hP).mono ?_; rintro e w3 ⟨rfl, hb3⟩))
              go_ret
              exact ⟨rfl, hb3⟩
    · have HA := Lib.hid ha
      have HS := Lib.hid hs
      clear ha hs
      go_enter Tryd.func6, Tryd.ntmps6
      go_wp2_with (first
        | (go_at_call_of 14 (Value.int IntKind.i64 a); refine (good_yes a _ HA.out).mono ?_; rintro e w' ⟨rfl, rfl⟩)
        | (go_at_call_of 14 (Value.int IntKind.i64 s); refine (good_no s _ HS.out).mono ?_; rintro e w' ⟨rfl, rfl⟩)
        | (go_at_call 15; refine (awake01 _ hM hT hP).mono ?_; rintro e w3 ⟨rfl, hb3⟩))
      go_ret
      exact ⟨rfl, hb3⟩
  · have HA := Lib.hid ha
    clear ha
    go_enter Tryd.func6, Tryd.ntmps6
    go_wp2_with (first
      | (go_at_call_of 14 (Value.int IntKind.i64 a); refine (good_no a _ HA.out).mono ?_; rintro e w' ⟨rfl, rfl⟩)
      | (go_at_call 15; refine (awake01 _ hM hT hP).mono ?_; rintro e w3 ⟨rfl, hb3⟩))
    go_ret
    exact ⟨rfl, hb3⟩
end Go.Proofs.YtkobkeopajohiaaDoor
