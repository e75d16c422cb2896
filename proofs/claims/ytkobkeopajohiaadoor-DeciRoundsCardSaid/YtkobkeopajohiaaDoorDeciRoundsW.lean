/-
  THE WALK of the law DeciRounds: numbers are rounded.
-/
import Derived.Test.YtkobkeopajohiaaDoorC5
import Derived.Test.YtkobkeopajohiaaDoorR6

namespace Go.Proofs.YtkobkeopajohiaaDoor
open Go.RowKit

theorem refRound_is (a p n : Int) (ok : Bool) (w : World) (ha : -999999999999999999 ≤ a ∧ a ≤ 999999999999999999) (h : Tab.roundS a p = (n, ok)) :
    Calls Tryd.prog 31 #[.int .i64 a, .int .i64 p] w fun e w' => e = .returned (.tuple #[.int .i64 n, .bool ok]) ∧ Below w.heap.size w w' := by
  have := refRound_any a p w ha
  rw [h] at this
  exact this
theorem same_self (a : Int) (ok : Bool) (w : World) :
    Calls Tryd.prog 27 #[.int .i64 a, .bool ok, .int .i64 a, .bool ok] w fun e w' => e = .returned (.bool true) ∧ w = w' := same_any a ok a ok w ⟨rfl, rfl⟩

/-- what is said of a number's sign, its whole part, and whether it is whole: in the walk's own words -/
def Facts (a sg wh : Int) (ii : Bool) : Prop := ∀ w, (Calls Tryd.prog 37 #[.int .i64 a] w fun e w' => e = .returned (.int .i64 sg) ∧ w = w') ∧
  (Calls Tryd.prog 38 #[.int .i64 a] w fun e w' => e = .returned (.int .i64 wh) ∧ w = w') ∧ (Calls Tryd.prog 39 #[.int .i64 a] w fun e w' => e = .returned (.bool ii) ∧ w = w')
theorem facts_neg (a : Int) (h : -999999999999999999 ≤ a ∧ a ≤ 999999999999999999) (hn : a < 0) : Facts a (-1) (a.tdiv 10000) (a.tmod 10000 == 0) := fun w => by
  have h1 := sign_any a w
  rw [Int.sign_eq_neg_one_of_neg hn] at h1
  exact ⟨h1, whole_any a w h.1 h.2, isInt_any a w⟩
theorem facts_pos (a : Int) (h : -999999999999999999 ≤ a ∧ a ≤ 999999999999999999) (hn : 0 < a) : Facts a 1 (a / 10000) (a % 10000 == 0) := fun w => by
  have h1 := sign_any a w
  have h2 := whole_any a w h.1 h.2
  have h3 := isInt_any a w
  rw [Int.sign_eq_one_of_pos hn] at h1
  rw [Int.tdiv_eq_ediv_of_nonneg (by omega)] at h2
  rw [Int.tmod_eq_emod_of_nonneg (by omega)] at h3
  exact ⟨h1, h2, h3⟩
theorem facts_zero (a : Int) (h : a = 0) : Facts a 0 (a / 10000) (a % 10000 == 0) := by
  subst h
  exact fun w => ⟨sign_any 0 w, whole_any 0 w (by decide) (by decide), isInt_any 0 w⟩

set_option maxHeartbeats 800000 in
theorem deciRounds_walk (a s p : Int) (w : World) (hM : GM w) (hT : GT w) (hP : GP w) :
    Calls Tryd.prog 8 #[.int .i64 a, .int .i64 s, .int .i64 p] w fun e w' => e = .returned (.bool true) ∧ Below w.heap.size w w' := by
  by_cases ha : -999999999999999999 ≤ a ∧ a ≤ 999999999999999999
  · by_cases hs : -999999999999999999 ≤ s ∧ s ≤ 999999999999999999
    · obtain ⟨r, ok, hr⟩ : ∃ r ok, Tab.roundS a p = (r, ok) := ⟨_, _, rfl⟩
      have HR := Lib.hid (round_is a p r ok w hT ha hr)
      have HRR := Lib.hid fun w => refRound_is a p r ok w ha hr
      have HTr := Lib.hid fun w (h : GT w) => trunc_any a p w h ha
      have HRT := Lib.hid fun w => refTrunc_any a p w ha
      have HA := Lib.hid ha
      have HS := Lib.hid hs
      generalize Tab.truncS a p = t at *
      have hab : (a.natAbs : Int) ≤ 999999999999999999 := by omega
      by_cases hs0 : s ≤ 0
      · have HF := Lib.hid fun w => floor_no a s w hs0
        have HC := Lib.hid fun w => ceil_no a s w ha hs0
        clear hr ha hs
        go_enter Tryd.func8, Tryd.ntmps8
        go_wp2_with (first
          | (go_at_call_of 14 (Value.int IntKind.i64 a); refine (good_yes a _ HA.out).mono ?_; rintro e w' ⟨rfl, rfl⟩)
          | (go_at_call_of 14 (Value.int IntKind.i64 s); refine (good_yes s _ HS.out).mono ?_; rintro e w' ⟨rfl, rfl⟩)
          | (go_at_call 18; refine HR.out.mono ?_; rintro e w' ⟨rfl, rfl⟩))
        go_at_call 31
        refine (HRR.out _).mono ?_
        rintro e w1 ⟨rfl, hb1⟩
        have hM1 := hM.below hb1
        have hT1 := hT.below hb1
        have hP1 := hP.below hb1
        go_wp2_with (first | (go_at_call 15; fail))
        go_at_call 15
        refine (awake01 _ hM1 hT1 hP1).mono ?_
        rintro e w2 ⟨rfl, hb2⟩
        have hT2 := hT1.below hb2
        have hb12 := hb1.trans (hb2.mono hb1.size)
        go_wp2_with (first
          | (go_at_call 27; refine (same_self r ok _).mono ?_; rintro e w' ⟨rfl, rfl⟩)
          | (go_at_call 32; refine (HTr.out _ hT2).mono ?_; rintro e w' ⟨rfl, rfl⟩))
        go_at_call 33
        refine (HRT.out _).mono ?_
        rintro e w3 ⟨rfl, hb3⟩
        have hb13 := hb12.trans (hb3.mono hb12.size)
        go_wp2_with (first
          | (go_at_call 19; refine (abs_any a _ (by omega) (by omega)).mono ?_; rintro e w' ⟨rfl, rfl⟩)
          | (go_at_call 34; refine (refSize_any a _ (by omega) (by omega)).mono ?_; rintro e w' ⟨rfl, rfl⟩)
          | (go_at_call 21; refine (HF.out _).mono ?_; rintro e w' ⟨rfl, rfl⟩)
          | (go_at_call 23; refine (HC.out _).mono ?_; rintro e w' ⟨rfl, rfl⟩))
        go_ret
        exact ⟨rfl, hb13⟩
      · obtain ⟨f, fits, hf⟩ : ∃ f fits, Tab.fit (a - a % s) = (f, fits) := ⟨_, _, rfl⟩
        obtain ⟨g, good, hg⟩ : ∃ g good, (-(Tab.fit (-a - (-a) % s)).1, (Tab.fit (-a - (-a) % s)).2) = (g, good) := ⟨_, _, rfl⟩
        have hs1 : 0 < s ∧ s ≤ 999999999999999999 := by omega
        have c1 := fun w => floor_any a s w ha hs1
        have c2 := fun w => ceil_any a s w ha hs1
        have c3 := fun w => refFloor_any a s w ha hs1
        have c4 := fun w => refCeil_any a s w ha hs1
        rw [hf] at c1 c3
        simp only [Prod.mk.injEq] at hg
        rw [hg.1, hg.2] at c2 c4
        have HF := Lib.hid c1
        have HC := Lib.hid c2
        have HF2 := Lib.hid c3
        have HC2 := Lib.hid c4
        clear c1 c2 c3 c4 hf hg
        have hcase : (a < 0 ∧ Facts a (-1) (a.tdiv 10000) (a.tmod 10000 == 0)) ∨ (0 < a ∧ Facts a 1 (a / 10000) (a % 10000 == 0)) ∨ ((0 ≤ a ∧ a ≤ 0) ∧ Facts a 0 (a / 10000) (a % 10000 == 0)) := by
          rcases Int.lt_trichotomy a 0 with h | h | h
          · exact .inl ⟨h, facts_neg a ha h⟩
          · exact .inr (.inr ⟨by omega, facts_zero a h⟩)
          · exact .inr (.inl ⟨h, facts_pos a ha h⟩)
        rcases hcase with ⟨ha0, fx⟩ | ⟨ha0, fx⟩ | ⟨⟨ha0, ha0'⟩, fx⟩
        all_goals
          have FX := Lib.hid fx
          clear fx
          clear hr ha hs hs1
          go_enter Tryd.func8, Tryd.ntmps8
          go_wp2_with (first
            | (go_at_call_of 14 (Value.int IntKind.i64 a); refine (good_yes a _ HA.out).mono ?_; rintro e w' ⟨rfl, rfl⟩)
            | (go_at_call_of 14 (Value.int IntKind.i64 s); refine (good_yes s _ HS.out).mono ?_; rintro e w' ⟨rfl, rfl⟩)
            | (go_at_call 18; refine HR.out.mono ?_; rintro e w' ⟨rfl, rfl⟩))
          go_at_call 31
          refine (HRR.out _).mono ?_
          rintro e w1 ⟨rfl, hb1⟩
          have hM1 := hM.below hb1
          have hT1 := hT.below hb1
          have hP1 := hP.below hb1
          go_wp2_with (first | (go_at_call 15; fail))
          go_at_call 15
          refine (awake01 _ hM1 hT1 hP1).mono ?_
          rintro e w2 ⟨rfl, hb2⟩
          have hT2 := hT1.below hb2
          have hb12 := hb1.trans (hb2.mono hb1.size)
          go_wp2_with (first
            | (go_at_call 27; refine (same_self r ok _).mono ?_; rintro e w' ⟨rfl, rfl⟩)
            | (go_at_call 32; refine (HTr.out _ hT2).mono ?_; rintro e w' ⟨rfl, rfl⟩))
          go_at_call 33
          refine (HRT.out _).mono ?_
          rintro e w3 ⟨rfl, hb3⟩
          have hb13 := hb12.trans (hb3.mono hb12.size)
          go_wp2_with (first
            | (go_at_call 19; refine (abs_any a _ (by omega) (by omega)).mono ?_; rintro e w' ⟨rfl, rfl⟩)
            | (go_at_call 34; refine (refSize_any a _ (by omega) (by omega)).mono ?_; rintro e w' ⟨rfl, rfl⟩)
            | (go_at_call 21; refine (HF.out _).mono ?_; rintro e w' ⟨rfl, rfl⟩)
            | (go_at_call 23; refine (HC.out _).mono ?_; rintro e w' ⟨rfl, rfl⟩)
            | (go_at_call 37; refine (FX.out _).1.mono ?_; rintro e w' ⟨rfl, rfl⟩)
            | (go_at_call 38; refine (FX.out _).2.1.mono ?_; rintro e w' ⟨rfl, rfl⟩)
            | (go_at_call 39; refine (FX.out _).2.2.mono ?_; rintro e w' ⟨rfl, rfl⟩)
            | (go_at_call 35; refine (HF2.out _).mono ?_; rintro e w' ⟨rfl, rfl⟩)
            | (go_at_call 36; refine (HC2.out _).mono ?_; rintro e w' ⟨rfl, rfl⟩)
            | (go_at_call_of 27 (Value.int IntKind.i64 f); refine (same_self f fits _).mono ?_; rintro e w' ⟨rfl, rfl⟩)
            | (go_at_call_of 27 (Value.int IntKind.i64 g); refine (same_self g good _).mono ?_; rintro e w' ⟨rfl, rfl⟩))
          go_ret
          exact ⟨ret_bool (by simp), hb13⟩
    · have HA := Lib.hid ha
      have HS := Lib.hid hs
      clear ha hs
      go_enter Tryd.func8, Tryd.ntmps8
      go_wp2_with (first
        | (go_at_call_of 14 (Value.int IntKind.i64 a); refine (good_yes a _ HA.out).mono ?_; rintro e w' ⟨rfl, rfl⟩)
        | (go_at_call_of 14 (Value.int IntKind.i64 s); refine (good_no s _ HS.out).mono ?_; rintro e w' ⟨rfl, rfl⟩)
        | (go_at_call 15; refine (awake01 _ hM hT hP).mono ?_; rintro e w3 ⟨rfl, hb3⟩))
      go_ret
      exact ⟨rfl, hb3⟩
  · have HA := Lib.hid ha
    clear ha
    go_enter Tryd.func8, Tryd.ntmps8
    go_wp2_with (first
      | (go_at_call_of 14 (Value.int IntKind.i64 a); refine (good_no a _ HA.out).mono ?_; rintro e w' ⟨rfl, rfl⟩)
      | (go_at_call 15; refine (awake01 _ hM hT hP).mono ?_; rintro e w3 ⟨rfl, hb3⟩))
    go_ret
    exact ⟨rfl, hb3⟩
end Go.Proofs.YtkobkeopajohiaaDoor
