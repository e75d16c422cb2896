/-
  THE WALK of the law DeciBack: a number's text is that number.
-/
import Derived.Test.YtkobkeopajohiaaDoorC5

namespace Go.Proofs.YtkobkeopajohiaaDoor
open Go.RowKit Go.Lib

theorem deciBack_walk (a : Int) (w : World) (hM : GM w) (hT : GT w) (hP : GP w) :
    Calls Tryd.prog 3 #[.int .i64 a] w fun e w' => e = .returned (.bool true) ∧ Below w.heap.size w w' := by
  by_cases hg : -999999999999999999 ≤ a ∧ a ≤ 999999999999999999
  · have hp := Lib.hid (Tab.parse_text a hg)
    obtain ⟨s, hs⟩ : ∃ s : ByteArray, s.data.toList = Tab.text a := ⟨⟨(Tab.text a).toArray⟩, rfl⟩
    have hsz : s.size < 4294967281 := by
      rw [size_eq, hs]; exact Nat.lt_of_le_of_lt (Tab.text_len a hg) (by decide)
    have HS := Lib.hid hs
    have HG := Lib.hid hg
    clear hs hg
    go_enter Tryd.func3, Tryd.ntmps3
    go_wp2_with (first
      | (go_at_call 14; refine (good_yes a _ HG.out).mono ?_; rintro e w' ⟨rfl, rfl⟩)
      | (go_at_call 17; fail))
    go_at_call 17
    refine (text_is a s _ hP HG.out HS.out).mono ?_
    rintro e w1 ⟨rfl, hb1⟩
    have hM1 := hM.below hb1
    have hT1 := hT.below hb1
    have hP1 := hP.below hb1
    go_wp2_with (first | (go_at_call 16; fail))
    go_at_call 16
    refine (parse_is s a true _ hM1 hsz (by rw [HS.out]; exact hp.out)).mono ?_
    rintro e w2 ⟨rfl, hb2⟩
    have hM2 := hM1.below hb2
    have hT2 := hT1.below hb2
    have hP2 := hP1.below hb2
    go_wp2_with (first | (go_at_call 15; refine (awake01 _ hM2 hT2 hP2).mono ?_; rintro e w3 ⟨rfl, hb3⟩))
    go_ret
    exact ⟨rfl, hb1.trans ((hb2.mono hb1.size).trans (hb3.mono (Nat.le_trans hb1.size hb2.size)))⟩
  · have hN := Lib.hid hg
    clear hg
    go_enter Tryd.func3, Tryd.ntmps3
    go_wp2_with (first
      | (go_at_call 14; refine (good_no a _ hN.out).mono ?_; rintro e w' ⟨rfl, rfl⟩)
      | (go_at_call 15; refine (awake01 _ hM hT hP).mono ?_; rintro e w3 ⟨rfl, hb3⟩))
    go_ret
    exact ⟨rfl, hb3⟩
end Go.Proofs.YtkobkeopajohiaaDoor
