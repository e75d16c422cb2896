/-
  THE WALK of the law MathsRounds: rounded down, rounded, rounded up.
-/
import Derived.Test.YtkobkeopajohiaaDoorV14
import Derived.Test.YtkobkeopajohiaaDoorV15
namespace Go.Proofs.YtkobkeopajohiaaDoor
open Go.RowKit Go.Lib

theorem given_bd (a p : Int) (h : -999999999999999999 ≤ a ∧ a ≤ 999999999999999999) : -999999999999999999 ≤ (awayV a p).given.1 ∧ (awayV a p).given.1 ≤ 999999999999999999 := by
  unfold awayV
  split
  · exact h
  · generalize (if a < 0 then Tab.truncS a p - step p else Tab.truncS a p + step p) = c
    unfold Tab.fit
    by_cases hc : -999999999999999999 ≤ c ∧ c ≤ 999999999999999999
    · simp only [if_pos hc, if_true, V.given]; exact hc
    · simp only [if_neg hc, Bool.false_eq_true, if_false, V.given]; omega

set_option maxHeartbeats 1600000 in
set_option maxRecDepth 100000 in
theorem mathsRounds_walk (a p : Int) (w : World) (hM : GM w) (hT : GT w) :
    Calls Tryd.prog 9 #[.int .i64 a, .int .i64 p] w fun e w' => e = .returned (.bool true) ∧ Below w.heap.size w w' := by
  have HAW := Lib.hid fun w hM hT => awake16 w hM hT
  by_cases ha : -999999999999999999 ≤ a ∧ a ≤ 999999999999999999
  · have HGd := Lib.hid fun w => good_yes a w ha
    by_cases hp0 : p < 0
    · clear ha
      go_enter Tryd.func9, Tryd.ntmps9
      go_wp2_with (first
        | (go_at_call 14; refine (HGd.out _).mono ?_; rintro e w' ⟨rfl, rfl⟩)
        | (go_at_call 40; refine (HAW.out _ hM hT).mono ?_; rintro e w' ⟨rfl, hb⟩))
      go_ret
      exact ⟨rfl, hb⟩
    · by_cases hp4 : 4 < p
      · clear ha
        go_enter Tryd.func9, Tryd.ntmps9
        go_wp2_with (first
          | (go_at_call 14; refine (HGd.out _).mono ?_; rintro e w' ⟨rfl, rfl⟩)
          | (go_at_call 40; refine (HAW.out _ hM hT).mono ?_; rintro e w' ⟨rfl, hb⟩))
        go_ret
        exact ⟨rfl, hb⟩
      · have hp : p = 0 ∨ p = 1 ∨ p = 2 ∨ p = 3 ∨ p = 4 := by omega
        obtain ⟨m, ok, hr⟩ : ∃ m ok, Tab.roundS a p = (m, ok) := ⟨_, _, rfl⟩
        obtain ⟨x, fits, hu⟩ : ∃ x fits, (awayV a p).given = (x, fits) := ⟨_, _, rfl⟩
        have L := rounds_law a p m x ok fits ha hp hr hu
        have hxb := given_bd a p ha
        rw [hu] at hxb
        have H1 := Lib.hid (oneIs_of _ a (p * 10000) _ _ _ w (fun g cap w' hb hA => call_ROUNDDOWN _ g cap a p _ w' (hM.below hb) (hT.below hb) hA (short_nums _ _) rfl (nums_two _ _) ha hp rfl) rfl)
        have H2 := Lib.hid (oneIs_of _ a (p * 10000) _ _ _ w (fun g cap w' hb hA => call_ROUND _ g cap a p _ w' (hM.below hb) (hT.below hb) hA (short_nums _ _) rfl (nums_two _ _) m ok ha hp hr rfl) (show _ = ((if ok then m else 0), ok) by cases ok <;> rfl))
        have H3 := Lib.hid (oneIs_of _ a (p * 10000) _ _ _ w (fun g cap w' hb hA => call_ROUNDUP _ g cap a p _ w' (hM.below hb) (hT.below hb) hA (short_nums _ _) rfl (nums_two _ _) ha hp rfl) hu)
        obtain ⟨A, hA, hAe⟩ := abs_ex a ha
        have HA := Lib.hid hA
        have hdb : (Tab.truncS a p).natAbs ≤ a.natAbs := by
          unfold Tab.truncS
          have := Tab.tmod_sub a (10 ^ (4 - p).toNat)
          split
          · omega
          · split
            · omega
            · omega
        generalize Tab.truncS a p = d at *
        clear hr hu hA hp
        cases ok
        · simp only [Bool.false_eq_true, if_false] at H2
          have hk : 999999999999989999 < A := by rw [hAe]; exact L.1 (by simp)
          clear L hAe ha
          go_enter Tryd.func9, Tryd.ntmps9
          go_wp2_with (first
            | (go_at_call 14; refine (HGd.out _).mono ?_; rintro e w' ⟨rfl, rfl⟩)
            | (go_at_call 41; fail))
          go_at_call 41
          refine (H1.out _ (Below.refl _ _)).mono ?_
          rintro e w1 ⟨rfl, hb1⟩
          go_wp2_with (first | (go_at_call 41; fail))
          go_at_call 41
          refine (H2.out _ hb1).mono ?_
          rintro e w2 ⟨rfl, hb2⟩
          have hb02 : Below w.heap.size w w2 := hb1.trans (hb2.mono hb1.size)
          clear hb1 hb2
          go_wp2_with (first | (go_at_call 41; fail))
          go_at_call 41
          refine (H3.out _ hb02).mono ?_
          rintro e w3 ⟨rfl, hb3⟩
          have hb03 : Below w.heap.size w w3 := hb02.trans (hb3.mono hb02.size)
          clear hb02 hb3
          have hM3 := hM.below hb03
          have hT3 := hT.below hb03
          go_wp2_with (first | (go_at_call 40; fail))
          go_at_call 40
          refine (HAW.out _ hM3 hT3).mono ?_
          rintro e w4 ⟨rfl, hb4⟩
          have hb04 : Below w.heap.size w w4 := hb03.trans (hb4.mono hb03.size)
          clear hb03 hb4 hM3 hT3
          go_wp2_with (first | (go_at_call 19; refine (HA.out _).mono ?_; rintro e w' ⟨rfl, rfl⟩))
          go_ret
          exact ⟨rfl, hb04⟩
        · simp only [if_true] at H2
          cases fits
          · have hk : 999999999999989999 < A := by rw [hAe]; exact L.1 (by simp)
            clear L hAe ha
            go_enter Tryd.func9, Tryd.ntmps9
            go_wp2_with (first
              | (go_at_call 14; refine (HGd.out _).mono ?_; rintro e w' ⟨rfl, rfl⟩)
              | (go_at_call 41; fail))
            go_at_call 41
            refine (H1.out _ (Below.refl _ _)).mono ?_
            rintro e w1 ⟨rfl, hb1⟩
            go_wp2_with (first | (go_at_call 41; fail))
            go_at_call 41
            refine (H2.out _ hb1).mono ?_
            rintro e w2 ⟨rfl, hb2⟩
            have hb02 : Below w.heap.size w w2 := hb1.trans (hb2.mono hb1.size)
            clear hb1 hb2
            go_wp2_with (first | (go_at_call 41; fail))
            go_at_call 41
            refine (H3.out _ hb02).mono ?_
            rintro e w3 ⟨rfl, hb3⟩
            have hb03 : Below w.heap.size w w3 := hb02.trans (hb3.mono hb02.size)
            clear hb02 hb3
            have hM3 := hM.below hb03
            have hT3 := hT.below hb03
            go_wp2_with (first | (go_at_call 40; fail))
            go_at_call 40
            refine (HAW.out _ hM3 hT3).mono ?_
            rintro e w4 ⟨rfl, hb4⟩
            have hb04 : Below w.heap.size w w4 := hb03.trans (hb4.mono hb03.size)
            clear hb03 hb4 hM3 hT3
            go_wp2_with (first | (go_at_call 19; refine (HA.out _).mono ?_; rintro e w' ⟨rfl, rfl⟩))
            go_ret
            exact ⟨rfl, hb04⟩
          · obtain ⟨l1, l2, l3, l4⟩ := L.2 rfl rfl
            obtain ⟨D, hD, hDe⟩ := abs_ex d (by omega)
            obtain ⟨X, hX, hXe⟩ := abs_ex x hxb
            have HD := Lib.hid hD
            have HX := Lib.hid hX
            have k1 : D ≤ A := by omega
            have k2 : A ≤ X := by omega
            have hda : D = A ∨ D < A := by omega
            have e3 : (m == d) = true ∨ ((m == d) = false ∧ (m == x) = true) := by
              rcases l3 with h | h
              · exact .inl (by rw [h]; simp)
              · by_cases h' : m = d
                · exact .inl (by rw [h']; simp)
                · exact .inr ⟨by rw [beq_eq_false_iff_ne]; exact h', by rw [h]; simp⟩
            have e4 : (d == a) = false ∨ ((d == a) = true ∧ Hid ((x == a) = true)) := by
              by_cases h' : d = a
              · refine .inr ⟨by rw [h']; simp, Lib.hid ?_⟩
                rw [beq_iff_eq]
                rcases l4 with h | h
                · exact absurd h' h
                · exact h
              · exact .inl (by rw [beq_eq_false_iff_ne]; exact h')
            clear l1 l2 l3 l4 hD hX hDe hXe hAe L ha hdb hxb hda
            rcases e3 with e3 | ⟨e3, e3'⟩ <;> rcases e4 with e4 | ⟨e4, e4'⟩
            all_goals
              go_enter Tryd.func9, Tryd.ntmps9
              go_wp2_with (first
                | (go_at_call 14; refine (HGd.out _).mono ?_; rintro e w' ⟨rfl, rfl⟩)
                | (go_at_call 41; fail))
              go_at_call 41
              refine (H1.out _ (Below.refl _ _)).mono ?_
              rintro e w1 ⟨rfl, hb1⟩
              go_wp2_with (first | (go_at_call 41; fail))
              go_at_call 41
              refine (H2.out _ hb1).mono ?_
              rintro e w2 ⟨rfl, hb2⟩
              have hb02 : Below w.heap.size w w2 := hb1.trans (hb2.mono hb1.size)
              clear hb1 hb2
              go_wp2_with (first | (go_at_call 41; fail))
              go_at_call 41
              refine (H3.out _ hb02).mono ?_
              rintro e w3 ⟨rfl, hb3⟩
              have hb03 : Below w.heap.size w w3 := hb02.trans (hb3.mono hb02.size)
              clear hb02 hb3
              have hM3 := hM.below hb03
              have hT3 := hT.below hb03
              go_wp2_with (first | (go_at_call 40; fail))
              go_at_call 40
              refine (HAW.out _ hM3 hT3).mono ?_
              rintro e w4 ⟨rfl, hb4⟩
              have hb04 : Below w.heap.size w w4 := hb03.trans (hb4.mono hb03.size)
              clear hb03 hb4 hM3 hT3
              go_wp2_with (first
                | (go_at_call_of 19 (Value.int IntKind.i64 d); refine (HD.out _).mono ?_; rintro e w' ⟨rfl, rfl⟩)
                | (go_at_call_of 19 (Value.int IntKind.i64 a); refine (HA.out _).mono ?_; rintro e w' ⟨rfl, rfl⟩)
                | (go_at_call_of 19 (Value.int IntKind.i64 x); refine (HX.out _).mono ?_; rintro e w' ⟨rfl, rfl⟩))
              all_goals go_ret
              all_goals first | exact ⟨rfl, hb04⟩ | exact absurd ‹d = a› (beq_eq_false_iff_ne.mp e4) | exact ⟨congrArg (fun b => Ending.returned (Value.bool b)) (‹Hid ((x == a) = true)›).out, hb04⟩
  · have HGd := Lib.hid fun w => good_no a w ha
    clear ha
    go_enter Tryd.func9, Tryd.ntmps9
    go_wp2_with (first
      | (go_at_call 14; refine (HGd.out _).mono ?_; rintro e w' ⟨rfl, rfl⟩)
      | (go_at_call 40; refine (HAW.out _ hM hT).mono ?_; rintro e w' ⟨rfl, hb⟩))
    go_ret
    exact ⟨rfl, hb⟩
end Go.Proofs.YtkobkeopajohiaaDoor
