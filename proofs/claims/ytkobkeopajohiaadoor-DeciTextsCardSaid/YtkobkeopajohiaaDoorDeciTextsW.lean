/-
  THE WALK of the law DeciTexts: what a number is written as, and a text read as a number.
-/
import Derived.Test.YtkobkeopajohiaaDoorC5
import Derived.Test.YtkobkeopajohiaaDoorT5
namespace Go.Proofs.YtkobkeopajohiaaDoor
open Go.RowKit Go.Lib

theorem refParse_is (s : ByteArray) (n : Int) (ok : Bool) (w : World) (hs : s.size ≤ 4294967) (h : Tab.parse s.data.toList = (n, ok)) :
    Calls Tryd.prog 25 #[.string s] w fun e w' => e = .returned (.tuple #[.int .i64 n, .bool ok]) ∧ Below w.heap.size w w' := by
  have := refParse_any s w hs
  rw [h] at this
  exact this
theorem refText_is (a : Int) (t : ByteArray) (w : World) (ha : -999999999999999999 ≤ a ∧ a ≤ 999999999999999999) (h : t.data.toList = Tab.text a) :
    Calls Tryd.prog 30 #[.int .i64 a] w fun e w' => e = .returned (.string t) ∧ Below w.heap.size w w' := by
  have := refText_any a w ha
  rw [← h] at this
  exact this
theorem same_is (a : Int) (ok : Bool) (w : World) :
    Calls Tryd.prog 27 #[.int .i64 a, .bool ok, .int .i64 a, .bool ok] w fun e w' => e = .returned (.bool true) ∧ w = w' := same_any a ok a ok w ⟨rfl, rfl⟩

set_option maxHeartbeats 1600000 in
set_option maxRecDepth 100000 in
theorem deciTexts_walk (a : Int) (s : ByteArray) (p n : Int) (w : World) (hn : -9223372036854775808 ≤ n ∧ n ≤ 9223372036854775807) (hM : GM w) (hT : GT w) (hP : GP w) :
    Calls Tryd.prog 7 #[.int .i64 a, .string s, .int .i64 p, .int .i64 n] w fun e w' => e = .returned (.bool true) ∧ Below w.heap.size w w' := by
  obtain ⟨s2, e2⟩ : ∃ t : ByteArray, t.data.toList = s.data.toList.take 60 := ⟨⟨(s.data.toList.take 60).toArray⟩, rfl⟩
  have z2 : s2.size ≤ 60 := by rw [size_eq, e2, List.length_take]; omega
  have HC := Lib.hid fun w => lawCut_any s s2 60 w e2
  obtain ⟨b, ok, hb⟩ : ∃ b ok, Tab.parse s2.data.toList = (b, ok) := ⟨_, _, rfl⟩
  have HP1 := Lib.hid fun w h => parse_is s2 b ok w h (by omega) hb
  have HP2 := Lib.hid fun w => refParse_is s2 b ok w (by omega) hb
  have hI : ∃ c fits, (∀ w, Calls Tryd.prog 26 #[.int .i64 n] w fun e w' => e = .returned (.tuple #[.int .i64 c, .bool fits]) ∧ w = w') ∧
      ((fits = true ∧ c = n * 10000 ∧ -99999999999999 ≤ n ∧ n ≤ 99999999999999) ∨ (fits = false ∧ c = 0 ∧ n < -99999999999999) ∨ (fits = false ∧ c = 0 ∧ -99999999999999 ≤ n ∧ 99999999999999 < n)) := by
    by_cases h : -99999999999999 ≤ n ∧ n ≤ 99999999999999
    · exact ⟨_, _, fun w => int_yes n w h, .inl ⟨rfl, rfl, h.1, h.2⟩⟩
    · by_cases h1 : n < -99999999999999
      · exact ⟨_, _, fun w => int_no n w hn (by omega), .inr (.inl ⟨rfl, rfl, h1⟩)⟩
      · exact ⟨_, _, fun w => int_no n w hn (by omega), .inr (.inr ⟨rfl, rfl, by omega, by omega⟩)⟩
  obtain ⟨c, fits, hI, hcase⟩ := hI
  have HI := Lib.hid hI
  clear hI e2 hb hn
  rcases hcase with ⟨rfl, rfl, n0, n1⟩ | ⟨rfl, rfl, n0⟩ | ⟨rfl, rfl, n0, n1⟩
  all_goals
    by_cases ha : -999999999999999999 ≤ a ∧ a ≤ 999999999999999999
    · have HA := Lib.hid ha
      obtain ⟨t, okt, hft⟩ := fixIs_ex a p
      have HF := Lib.hid fun w hT hP => fixed_is a p t okt w hT hP ha hft
      have HF2 := Lib.hid fun w => refFixed_is a p t okt w ha hft
      obtain ⟨x, hx⟩ : ∃ x : ByteArray, x.data.toList = Tab.text a := ⟨⟨(Tab.text a).toArray⟩, rfl⟩
      have HX := Lib.hid fun w h => text_is a x w h ha hx
      have HX2 := Lib.hid fun w => refText_is a x w ha hx
      clear ha hft hx
      go_enter Tryd.func7, Tryd.ntmps7
      go_wp2_with (first
        | (go_at_call 24; refine (HC.out _).mono ?_; rintro e w' ⟨rfl, rfl⟩))
      go_at_call 16
      refine (HP1.out _ hM).mono ?_
      rintro e w1 ⟨rfl, hb1⟩
      go_wp2_with (first | (go_at_call 25; fail))
      go_at_call 25
      refine (HP2.out _).mono ?_
      rintro e w2 ⟨rfl, hb2⟩
      have hb12 := hb1.trans (hb2.mono hb1.size)
      have hM2 := hM.below hb12
      have hT2 := hT.below hb12
      have hP2 := hP.below hb12
      go_wp2_with (first
        | (go_at_call 26; refine (HI.out _).mono ?_; rintro e w' ⟨rfl, rfl⟩))
      go_at_call 15
      refine (awake01 _ hM2 hT2 hP2).mono ?_
      rintro e w3 ⟨rfl, hb3⟩
      have hb13 := hb12.trans (hb3.mono hb12.size)
      have hT3 := hT.below hb13
      have hP3 := hP.below hb13
      go_wp2_with (first
        | (go_at_call 27; refine (same_is b ok _).mono ?_; rintro e w' ⟨rfl, rfl⟩)
        | (go_at_call 14; refine (good_yes a _ HA.out).mono ?_; rintro e w' ⟨rfl, rfl⟩))
      go_at_call 28
      refine (HF.out _ hT3 hP3).mono ?_
      rintro e w4 ⟨rfl, hb4⟩
      have hb14 := hb13.trans (hb4.mono hb13.size)
      have hP4 := hP.below hb14
      go_wp2_with (first | (go_at_call 29; fail))
      go_at_call 29
      refine (HF2.out _).mono ?_
      rintro e w5 ⟨rfl, hb5⟩
      have hb15 := hb14.trans (hb5.mono hb14.size)
      have hP5 := hP.below hb15
      go_wp2_with (first | (go_at_call 17; fail))
      go_at_call 17
      refine (HX.out _ hP5).mono ?_
      rintro e w6 ⟨rfl, hb6⟩
      have hb16 := hb15.trans (hb6.mono hb15.size)
      go_wp2_with (first | (go_at_call 30; fail))
      go_at_call 30
      refine (HX2.out _).mono ?_
      rintro e w7 ⟨rfl, hb7⟩
      have hb17 := hb16.trans (hb7.mono hb16.size)
      go_wp2
      go_ret
      exact ⟨ret_bool (by simp), hb17⟩
    · have HA := Lib.hid ha
      clear ha
      go_enter Tryd.func7, Tryd.ntmps7
      go_wp2_with (first
        | (go_at_call 24; refine (HC.out _).mono ?_; rintro e w' ⟨rfl, rfl⟩))
      go_at_call 16
      refine (HP1.out _ hM).mono ?_
      rintro e w1 ⟨rfl, hb1⟩
      go_wp2_with (first | (go_at_call 25; fail))
      go_at_call 25
      refine (HP2.out _).mono ?_
      rintro e w2 ⟨rfl, hb2⟩
      have hb12 := hb1.trans (hb2.mono hb1.size)
      have hM2 := hM.below hb12
      have hT2 := hT.below hb12
      have hP2 := hP.below hb12
      go_wp2_with (first
        | (go_at_call 26; refine (HI.out _).mono ?_; rintro e w' ⟨rfl, rfl⟩))
      go_at_call 15
      refine (awake01 _ hM2 hT2 hP2).mono ?_
      rintro e w3 ⟨rfl, hb3⟩
      have hb13 := hb12.trans (hb3.mono hb12.size)
      go_wp2_with (first
        | (go_at_call 27; refine (same_is b ok _).mono ?_; rintro e w' ⟨rfl, rfl⟩)
        | (go_at_call 14; refine (good_no a _ HA.out).mono ?_; rintro e w' ⟨rfl, rfl⟩))
      go_ret
      exact ⟨rfl, hb13⟩
end Go.Proofs.YtkobkeopajohiaaDoor
