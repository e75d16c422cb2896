/-
  THE WALK of the law MathsParts: a number is its quotient and what is left.
-/
import Derived.Test.YtkobkeopajohiaaDoorV15
namespace Go.Proofs.YtkobkeopajohiaaDoor
open Go.RowKit Go.Lib

set_option maxHeartbeats 1600000 in
set_option maxRecDepth 100000 in
theorem mathsParts_walk (a b : Int) (w : World) (hM : GM w) (hT : GT w) :
    Calls Tryd.prog 11 #[.int .i64 a, .int .i64 b] w fun e w' => e = .returned (.bool true) ∧ Below w.heap.size w w' := by
  have HAW := Lib.hid fun w hM hT => awake16 w hM hT
  by_cases ha : -999999999999999999 ≤ a ∧ a ≤ 999999999999999999
  · have HGd := Lib.hid fun w => good_yes a w ha
    by_cases hb : -999999999999999999 ≤ b ∧ b ≤ 999999999999999999
    · have HGb := Lib.hid fun w => good_yes b w hb
      by_cases hab : a < 0 ∨ b < 1
      · clear ha hb
        by_cases ha : a < 0
        · clear hab
          go_enter Tryd.func11, Tryd.ntmps11
          go_wp2_with (first
            | (go_at_call_of 14 (Value.int IntKind.i64 a); refine (HGd.out _).mono ?_; rintro e w' ⟨rfl, rfl⟩)
            | (go_at_call_of 14 (Value.int IntKind.i64 b); refine (HGb.out _).mono ?_; rintro e w' ⟨rfl, rfl⟩)
            | (go_at_call 40; refine (HAW.out _ hM hT).mono ?_; rintro e w' ⟨rfl, hb⟩))
          all_goals go_ret
          all_goals exact ⟨rfl, hb⟩
        · have hb : b < 1 := by omega
          clear hab
          go_enter Tryd.func11, Tryd.ntmps11
          go_wp2_with (first
            | (go_at_call_of 14 (Value.int IntKind.i64 a); refine (HGd.out _).mono ?_; rintro e w' ⟨rfl, rfl⟩)
            | (go_at_call_of 14 (Value.int IntKind.i64 b); refine (HGb.out _).mono ?_; rintro e w' ⟨rfl, rfl⟩)
            | (go_at_call 40; refine (HAW.out _ hM hT).mono ?_; rintro e w' ⟨rfl, hb⟩))
          all_goals go_ret
          all_goals exact ⟨rfl, hb⟩
      · have ha0 : 0 ≤ a := by omega
        have hb1 : 1 ≤ b := by omega
        have ha9 := ha.2
        have hb9 := hb.2
        have q0 := Int.ediv_nonneg ha0 (show 0 ≤ b by omega)
        have q1 := Int.ediv_le_self b ha0
        have r0 := Int.emod_nonneg a (show b ≠ 0 by omega)
        have r1 := Int.emod_lt_of_pos a (show 0 < b by omega)
        have hqr := Int.mul_ediv_add_emod a b
        have hfm : Int.fmod a b = a % b := Int.fmod_eq_emod_of_nonneg _ (by omega)
        have H2 := Lib.hid (oneIs_of _ a b _ _ _ w (fun g cap w' hb' hA => call_MOD _ g cap a b _ w' (hM.below hb') (hT.below hb') hA (short_nums _ _) rfl (nums_two _ _) ⟨hb1, hb9⟩ rfl) (show _ = (a % b, true) by rw [hfm]; rfl))
        clear ha hb hab hfm
        by_cases hq : a / b ≤ 99999999999999
        · have H1 := Lib.hid (oneIs_of _ a b _ _ _ w (fun g cap w' hb' hA => call_QUOTIENT _ g cap a b _ w' (hM.below hb') (hT.below hb') hA (short_nums _ _) rfl (nums_two _ _) ⟨ha0, ha9⟩ ⟨hb1, hb9⟩ (if_pos hq)) rfl)
          have HW := Lib.hid fun w => whole_any (a / b * 10000) w (by omega) (by omega)
          rw [Int.mul_tdiv_cancel _ (by decide)] at HW
          have hmul : 0 ≤ a / b * b ∧ a / b * b + a % b = a := by
            rw [Int.mul_comm] at hqr ⊢
            constructor
            · exact Int.mul_nonneg (by omega) q0
            · rw [Int.mul_comm]; exact hqr
          have hz : (b == 0) = false := by rw [beq_eq_false_iff_ne]; omega
          obtain ⟨hm0, hm1⟩ := hmul
          have hm2 : a / b * b ≤ a := by omega
          have HE := Lib.hid hm1
          clear hqr hm1
          generalize a / b = q at *
          generalize a % b = r at *
          generalize hP : q * b = P at *
          have HP := Lib.hid hP
          clear hP
          go_enter Tryd.func11, Tryd.ntmps11
          go_wp2_with (first
            | (go_at_call_of 14 (Value.int IntKind.i64 a); refine (HGd.out _).mono ?_; rintro e w' ⟨rfl, rfl⟩)
            | (go_at_call_of 14 (Value.int IntKind.i64 b); refine (HGb.out _).mono ?_; rintro e w' ⟨rfl, rfl⟩)
            | (go_at_call 41; fail))
          go_at_call 41
          refine (H1.out _ (Below.refl _ _)).mono ?_
          rintro e w1 ⟨rfl, hb1'⟩
          go_wp2_with (first | (go_at_call 41; fail))
          go_at_call 41
          refine (H2.out _ hb1').mono ?_
          rintro e w2 ⟨rfl, hb2⟩
          have hb02 : Below w.heap.size w w2 := hb1'.trans (hb2.mono hb1'.size)
          clear hb1' hb2
          have hM2 := hM.below hb02
          have hT2 := hT.below hb02
          go_wp2_with (first | (go_at_call 40; fail))
          go_at_call 40
          refine (HAW.out _ hM2 hT2).mono ?_
          rintro e w3 ⟨rfl, hb3⟩
          have hb03 : Below w.heap.size w w3 := hb02.trans (hb3.mono hb02.size)
          clear hb02 hb3 hM2 hT2
          go_wp2_with (first | (go_at_call 38; refine (HW.out _).mono ?_; rintro e w' ⟨rfl, rfl⟩))
          all_goals go_ret
          all_goals
            have e1 : wrap64 (wrap64 (q * b) + r) = a := by
              rw [HP.out, IntWalk.wrap64_in P ⟨by omega, by omega⟩]
              rw [HE.out]
              exact IntWalk.wrap64_in a ⟨by omega, by omega⟩
            exact ⟨congrArg (fun b => Ending.returned (Value.bool b)) (by rw [e1]; simp), hb03⟩
        · have H1 := Lib.hid (oneIs_of _ a b _ _ _ w (fun g cap w' hb' hA => call_QUOTIENT _ g cap a b _ w' (hM.below hb') (hT.below hb') hA (short_nums _ _) rfl (nums_two _ _) ⟨ha0, ha9⟩ ⟨hb1, hb9⟩ (if_neg hq)) rfl)
          have hz : (b == 0) = false := by rw [beq_eq_false_iff_ne]; omega
          clear hqr
          generalize a % b = r at *
          go_enter Tryd.func11, Tryd.ntmps11
          go_wp2_with (first
            | (go_at_call_of 14 (Value.int IntKind.i64 a); refine (HGd.out _).mono ?_; rintro e w' ⟨rfl, rfl⟩)
            | (go_at_call_of 14 (Value.int IntKind.i64 b); refine (HGb.out _).mono ?_; rintro e w' ⟨rfl, rfl⟩)
            | (go_at_call 41; fail))
          go_at_call 41
          refine (H1.out _ (Below.refl _ _)).mono ?_
          rintro e w1 ⟨rfl, hb1'⟩
          go_wp2_with (first | (go_at_call 41; fail))
          go_at_call 41
          refine (H2.out _ hb1').mono ?_
          rintro e w2 ⟨rfl, hb2⟩
          have hb02 : Below w.heap.size w w2 := hb1'.trans (hb2.mono hb1'.size)
          clear hb1' hb2
          have hM2 := hM.below hb02
          have hT2 := hT.below hb02
          go_wp2_with (first | (go_at_call 40; fail))
          go_at_call 40
          refine (HAW.out _ hM2 hT2).mono ?_
          rintro e w3 ⟨rfl, hb3⟩
          have hb03 : Below w.heap.size w w3 := hb02.trans (hb3.mono hb02.size)
          clear hb02 hb3 hM2 hT2
          go_wp2
          all_goals go_ret
          all_goals exact ⟨rfl, hb03⟩
    · have HGb := Lib.hid fun w => good_no b w hb
      clear ha hb
      go_enter Tryd.func11, Tryd.ntmps11
      go_wp2_with (first
        | (go_at_call_of 14 (Value.int IntKind.i64 a); refine (HGd.out _).mono ?_; rintro e w' ⟨rfl, rfl⟩)
        | (go_at_call_of 14 (Value.int IntKind.i64 b); refine (HGb.out _).mono ?_; rintro e w' ⟨rfl, rfl⟩)
        | (go_at_call 40; refine (HAW.out _ hM hT).mono ?_; rintro e w' ⟨rfl, hb⟩))
      all_goals go_ret
      all_goals exact ⟨rfl, hb⟩
  · have HGd := Lib.hid fun w => good_no a w ha
    clear ha
    go_enter Tryd.func11, Tryd.ntmps11
    go_wp2_with (first
      | (go_at_call_of 14 (Value.int IntKind.i64 a); refine (HGd.out _).mono ?_; rintro e w' ⟨rfl, rfl⟩)
      | (go_at_call 40; refine (HAW.out _ hM hT).mono ?_; rintro e w' ⟨rfl, hb⟩))
    all_goals go_ret
    all_goals exact ⟨rfl, hb⟩
end Go.Proofs.YtkobkeopajohiaaDoor
