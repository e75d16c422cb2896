/-
  THE WALK of the law ValueFails: a failure stays one.
-/
import Derived.Test.YtkobkeopajohiaaGreatDoorH1
import Derived.Test.YtkobkeopajohiaaGreatDoorH2
import Derived.Test.YtkobkeopajohiaaGreatDoorG5
import Derived.Test.YtkobkeopajohiaaGreatDoorT1
namespace Go.Proofs.YtkobkeopajohiaaGreatDoor
open Go.RowKit Go.Lib

theorem cut_size (p : P) (n : Nat) : (p.cut n).s.size ≤ n := by
  rw [size_eq]
  show (p.s.data.toList.take n).length ≤ n
  rw [List.length_take]; omega
set_option maxHeartbeats 1600000 in
set_option maxRecDepth 100000 in
theorem valueFails_guard (p : P) (n op : Int) (hg : n < 1 ∨ (1 ≤ n ∧ 7 < n) ∨ ((1 ≤ n ∧ n ≤ 7) ∧ op < 0) ∨ ((1 ≤ n ∧ n ≤ 7) ∧ 0 ≤ op ∧ 4 < op)) (w : World) (hM : GM w) :
    Calls Tryz.prog 5 #[p.val, .int .i64 n, .int .i64 op] w fun e w' => e = .returned (.bool true) ∧ Below w.heap.size w w' := by
  have HAW := Lib.hid fun w hM => awake15 w hM
  obtain ⟨k, m, s⟩ := p
  simp only [P.val]
  have hb0 : Below w.heap.size w (w.alloc (.cells #[.int .i64 k, .int .i64 m, .string s] 41)) := (Below.refl _ _).alloc (Nat.le_refl _) _
  have hM1 := hM.below hb0
  have HB0 := Lib.hid hb0
  clear hb0
  rcases hg with h | ⟨h1, h⟩ | ⟨⟨h1, h2⟩, h⟩ | ⟨⟨h1, h2⟩, h3, h⟩
  all_goals
    go_enter Tryz.func5, Tryz.ntmps5
    go_wp2_with (first | (go_at_call 18; fail))
    go_at_call 18
    refine (HAW.out _ hM1).mono ?_
    rintro e w1 ⟨rfl, hb⟩
    have hb1 := HB0.out.trans (hb.mono HB0.out.size)
    go_wp2
    go_ret
    exact ⟨rfl, hb1⟩
set_option maxHeartbeats 6400000 in
set_option maxRecDepth 100000 in
theorem valueFails_main (p : P) (n op : Int) (h1 : 1 ≤ n) (h7 : n ≤ 7) (h0 : 0 ≤ op) (h4 : op ≤ 4) (w : World) (hM : GM w) (hP : GP w) (hU : Lib.Utf8Tabs 4 5 w) (h6 : 5 < w.heap.size) :
    Calls Tryz.prog 5 #[p.val, .int .i64 n, .int .i64 op] w fun e w' => e = .returned (.bool true) ∧ Below w.heap.size w w' := by
  have HAW := Lib.hid fun w hM => awake15 w hM
  have hn : ¬ n = 0 := by omega
  have HCut := Lib.hid fun w => lawCut_any p.s ⟨(p.s.data.toList.take 100).toArray⟩ 100 w rfl
  have HMade := Lib.hid fun w hU h7 => lawMade_any (p.cut 100) w hU h7 (by have := cut_size p 100; omega)
  have hgood := of_good (p.cut 100)
  generalize (p.cut 100).of = v at *
  obtain ⟨b1, s1, e1⟩ := tell_kind v
  rw [e1] at HMade
  have HN := Lib.hid fun w hM => asNumber_is (.fail n) 0 n w hM trivial rfl
  have HTx := Lib.hid fun w hP => asText_any (.fail n) w hP ⟨h1, h7⟩
  have HBo := Lib.hid fun w => asBool_fail n w
  have HH1 := Lib.hid fun w => hold_want op n v w
  have HH2 := Lib.hid fun w => hold_first op n v w
  have HAr := Lib.hid fun w hM => arith_fail op n v w hM hn
  have HJ := Lib.hid fun w hP => join_want n v w hP hgood ⟨h1, h7⟩
  have HTW := Lib.hid fun w => told_any (v.first n) w
  have HTF := Lib.hid fun w => told_any (.fail n) w
  have HM := Lib.hid hM
  have HP := Lib.hid hP
  have HU := Lib.hid hU
  obtain ⟨k, m, s⟩ := p
  simp only [P.val, P.cut] at HCut HMade ⊢
  generalize (⟨(s.data.toList.take 100).toArray⟩ : ByteArray) = t at *
  clear hM hP hU e1
  have hA0 : Below w.heap.size w (w.alloc (.cells #[.int .i64 k, .int .i64 m, .string t] 41)) := (Below.refl _ _).alloc (Nat.le_refl _) _
  have hU1 := tabs_below HU.out hA0 h6
  have h61 : 5 < (w.alloc (.cells #[.int .i64 k, .int .i64 m, .string t] 41)).heap.size := by simp; omega
  have HA0 := Lib.hid hA0
  have HU1 := Lib.hid hU1
  have H61 := Lib.hid h61
  clear hA0 hU1 h61
  by_cases hf : ∃ q, v = .fail q
  · obtain ⟨q, rfl⟩ := hf
    clear hgood
    simp only [V.val, V.failed, V.first, V.kind, V.tell] at HMade HN HTx HBo HH1 HH2 HAr HJ HTW HTF
    go_enter Tryz.func5, Tryz.ntmps5
    go_wp2_with (first | (go_at_call 7; refine (HCut.out _).mono ?_; rintro e w' ⟨rfl, rfl⟩) | (go_at_call 17; fail))
    generalize w.alloc (.cells #[.int .i64 k, .int .i64 m, .string t] 41) = A0 at *
    go_at_call 17
    refine (HMade.out _ HU1.out H61.out).mono ?_
    rintro e w1 ⟨rfl, hb⟩
    have HB0 := Lib.hid (HA0.out.trans (hb.mono HA0.out.size))
    have HB1 := Lib.hid (HB0.out.alloc HB0.out.size (.cells #[.int .i64 4, .int .i64 b1, .string s1] 28))
    clear hb HB0 HU1 H61 HA0
    go_wp2_with (first | (go_at_call 27; fail))
    have hbw := HB1.out
    go_at_call 27
    refine (HN.out _ (HM.out.below hbw)).mono ?_
    rintro e w2 ⟨rfl, hb2⟩
    have HB2 := Lib.hid (HB1.out.trans (hb2.mono HB1.out.size))
    clear hb2 HB1 hbw
    go_wp2_with (first | (go_at_call 28; fail))
    have hbw := HB2.out
    go_at_call 28
    refine (HTx.out _ (HP.out.below hbw)).mono ?_
    rintro e w3 ⟨s3, rfl, hb3⟩
    have HB3 := Lib.hid (HB2.out.trans (hb3.mono HB2.out.size))
    clear hb3 HB2 hbw
    go_wp2_with (first | (go_at_call 29; fail))
    go_at_call 29
    refine (HBo.out _).mono ?_
    rintro e w4 ⟨rfl, hb4⟩
    have HB4 := Lib.hid (HB3.out.trans (hb4.mono HB3.out.size))
    clear hb4 HB3
    go_wp2_with (first | (go_at_call 18; fail))
    have hbw := HB4.out
    go_at_call 18
    refine (HAW.out _ (HM.out.below hbw)).mono ?_
    rintro e w5 ⟨rfl, hb5⟩
    have HB5 := Lib.hid (HB4.out.trans (hb5.mono HB4.out.size))
    clear hb5 HB4 hbw
    go_wp2_with (first | (go_at_call 23; fail))
    go_at_call 23
    refine (HH1.out _).mono ?_
    rintro e w6 ⟨rfl, hb6⟩
    have HB6 := Lib.hid (HB5.out.trans (hb6.mono HB5.out.size))
    clear hb6 HB5
    go_wp2_with (first | (go_at_call 12; fail))
    go_at_call 12
    refine (HTW.out _).mono ?_
    rintro e w7 ⟨rfl, hb7⟩
    have HB7 := Lib.hid (HB6.out.trans (hb7.mono HB6.out.size))
    clear hb7 HB6
    go_wp2_with (first | (go_at_call 12; fail))
    go_at_call 12
    refine (HTW.out _).mono ?_
    rintro e w8 ⟨rfl, hb8⟩
    have HB8 := Lib.hid (HB7.out.trans (hb8.mono HB7.out.size))
    clear hb8 HB7
    go_wp2_with (first | (go_at_call 25; fail))
    have hbw := HB8.out
    go_at_call 25
    refine (HAr.out _ (HM.out.below hbw)).mono ?_
    rintro e w9 ⟨rfl, hb9⟩
    have HB9 := Lib.hid (HB8.out.trans (hb9.mono HB8.out.size))
    clear hb9 HB8 hbw
    go_wp2_with (first | (go_at_call 12; fail))
    go_at_call 12
    refine (HTF.out _).mono ?_
    rintro e w10 ⟨rfl, hb10⟩
    have HB10 := Lib.hid (HB9.out.trans (hb10.mono HB9.out.size))
    clear hb10 HB9
    go_wp2_with (first | (go_at_call 12; fail))
    go_at_call 12
    refine (HTF.out _).mono ?_
    rintro e w11 ⟨rfl, hb11⟩
    have HB11 := Lib.hid (HB10.out.trans (hb11.mono HB10.out.size))
    clear hb11 HB10
    go_wp2_with (first | (go_at_call 19; fail))
    have hbw := HB11.out
    go_at_call 19
    refine (HJ.out _ (HP.out.below hbw)).mono ?_
    rintro e w12 ⟨rfl, hb12⟩
    have HB12 := Lib.hid (HB11.out.trans (hb12.mono HB11.out.size))
    clear hb12 HB11 hbw
    go_wp2_with (first | (go_at_call 12; fail))
    go_at_call 12
    refine (HTW.out _).mono ?_
    rintro e w13 ⟨rfl, hb13⟩
    have HB13 := Lib.hid (HB12.out.trans (hb13.mono HB12.out.size))
    clear hb13 HB12
    go_wp2_with (first | (go_at_call 12; fail))
    go_at_call 12
    refine (HTW.out _).mono ?_
    rintro e w14 ⟨rfl, hb14⟩
    have HB14 := Lib.hid (HB13.out.trans (hb14.mono HB13.out.size))
    clear hb14 HB13
    go_wp2_with (first | (go_at_call 23; fail))
    go_at_call 23
    refine (HH2.out _).mono ?_
    rintro e w15 ⟨rfl, hb15⟩
    have HB15 := Lib.hid (HB14.out.trans (hb15.mono HB14.out.size))
    clear hb15 HB14
    go_wp2_with (first | (go_at_call 12; fail))
    go_at_call 12
    refine (HTF.out _).mono ?_
    rintro e w16 ⟨rfl, hb16⟩
    have HB16 := Lib.hid (HB15.out.trans (hb16.mono HB15.out.size))
    clear hb16 HB15
    go_wp2_with (first | (go_at_call 12; fail))
    go_at_call 12
    refine (HTF.out _).mono ?_
    rintro e w17 ⟨rfl, hb17⟩
    have HB17 := Lib.hid (HB16.out.trans (hb17.mono HB16.out.size))
    clear hb17 HB16
    go_wp2
    go_ret
    exact ⟨rfl, HB17.out⟩
  · have hk : (v.kind == 4) = false := by cases v <;> first | rfl | exact absurd ⟨_, rfl⟩ hf
    have hfi : v.first n = .fail n := by cases v <;> first | rfl | exact absurd ⟨_, rfl⟩ hf
    rw [hfi] at HTW
    simp only [hfi] at HH1 HJ
    clear hf hfi hgood
    generalize v.kind = kk at *
    simp only [V.val_eq v] at HMade HH1 HH2 HAr HJ
    generalize v.ty = ty at *
    generalize v.raw = x at *
    simp only [V.val, V.failed, V.tell] at HN HTx HBo HH1 HH2 HAr HJ HTW HTF
    go_enter Tryz.func5, Tryz.ntmps5
    go_wp2_with (first | (go_at_call 7; refine (HCut.out _).mono ?_; rintro e w' ⟨rfl, rfl⟩) | (go_at_call 17; fail))
    generalize w.alloc (.cells #[.int .i64 k, .int .i64 m, .string t] 41) = A0 at *
    go_at_call 17
    refine (HMade.out _ HU1.out H61.out).mono ?_
    rintro e w1 ⟨rfl, hb⟩
    have HB0 := Lib.hid (HA0.out.trans (hb.mono HA0.out.size))
    have HB1 := Lib.hid (HB0.out.alloc HB0.out.size (.cells #[.int .i64 kk, .int .i64 b1, .string s1] 28))
    clear hb HB0 HU1 H61 HA0
    go_wp2_with (first | (go_at_call 27; fail))
    have hbw := HB1.out
    go_at_call 27
    refine (HN.out _ (HM.out.below hbw)).mono ?_
    rintro e w2 ⟨rfl, hb2⟩
    have HB2 := Lib.hid (HB1.out.trans (hb2.mono HB1.out.size))
    clear hb2 HB1 hbw
    go_wp2_with (first | (go_at_call 28; fail))
    have hbw := HB2.out
    go_at_call 28
    refine (HTx.out _ (HP.out.below hbw)).mono ?_
    rintro e w3 ⟨s3, rfl, hb3⟩
    have HB3 := Lib.hid (HB2.out.trans (hb3.mono HB2.out.size))
    clear hb3 HB2 hbw
    go_wp2_with (first | (go_at_call 29; fail))
    go_at_call 29
    refine (HBo.out _).mono ?_
    rintro e w4 ⟨rfl, hb4⟩
    have HB4 := Lib.hid (HB3.out.trans (hb4.mono HB3.out.size))
    clear hb4 HB3
    go_wp2_with (first | (go_at_call 18; fail))
    have hbw := HB4.out
    go_at_call 18
    refine (HAW.out _ (HM.out.below hbw)).mono ?_
    rintro e w5 ⟨rfl, hb5⟩
    have HB5 := Lib.hid (HB4.out.trans (hb5.mono HB4.out.size))
    clear hb5 HB4 hbw
    go_wp2_with (first | (go_at_call 23; fail))
    go_at_call 23
    refine (HH1.out _).mono ?_
    rintro e w6 ⟨rfl, hb6⟩
    have HB6 := Lib.hid (HB5.out.trans (hb6.mono HB5.out.size))
    clear hb6 HB5
    go_wp2_with (first | (go_at_call 12; fail))
    go_at_call 12
    refine (HTW.out _).mono ?_
    rintro e w7 ⟨rfl, hb7⟩
    have HB7 := Lib.hid (HB6.out.trans (hb7.mono HB6.out.size))
    clear hb7 HB6
    go_wp2_with (first | (go_at_call 12; fail))
    go_at_call 12
    refine (HTW.out _).mono ?_
    rintro e w8 ⟨rfl, hb8⟩
    have HB8 := Lib.hid (HB7.out.trans (hb8.mono HB7.out.size))
    clear hb8 HB7
    go_wp2_with (first | (go_at_call 25; fail))
    have hbw := HB8.out
    go_at_call 25
    refine (HAr.out _ (HM.out.below hbw)).mono ?_
    rintro e w9 ⟨rfl, hb9⟩
    have HB9 := Lib.hid (HB8.out.trans (hb9.mono HB8.out.size))
    clear hb9 HB8 hbw
    go_wp2_with (first | (go_at_call 12; fail))
    go_at_call 12
    refine (HTF.out _).mono ?_
    rintro e w10 ⟨rfl, hb10⟩
    have HB10 := Lib.hid (HB9.out.trans (hb10.mono HB9.out.size))
    clear hb10 HB9
    go_wp2_with (first | (go_at_call 12; fail))
    go_at_call 12
    refine (HTF.out _).mono ?_
    rintro e w11 ⟨rfl, hb11⟩
    have HB11 := Lib.hid (HB10.out.trans (hb11.mono HB10.out.size))
    clear hb11 HB10
    go_wp2_with (first | (go_at_call 19; fail))
    have hbw := HB11.out
    go_at_call 19
    refine (HJ.out _ (HP.out.below hbw)).mono ?_
    rintro e w12 ⟨rfl, hb12⟩
    have HB12 := Lib.hid (HB11.out.trans (hb12.mono HB11.out.size))
    clear hb12 HB11 hbw
    go_wp2_with (first | (go_at_call 12; fail))
    go_at_call 12
    refine (HTW.out _).mono ?_
    rintro e w13 ⟨rfl, hb13⟩
    have HB13 := Lib.hid (HB12.out.trans (hb13.mono HB12.out.size))
    clear hb13 HB12
    go_wp2_with (first | (go_at_call 12; fail))
    go_at_call 12
    refine (HTW.out _).mono ?_
    rintro e w14 ⟨rfl, hb14⟩
    have HB14 := Lib.hid (HB13.out.trans (hb14.mono HB13.out.size))
    clear hb14 HB13
    go_wp2_with (first | (go_at_call 23; fail))
    go_at_call 23
    refine (HH2.out _).mono ?_
    rintro e w15 ⟨rfl, hb15⟩
    have HB15 := Lib.hid (HB14.out.trans (hb15.mono HB14.out.size))
    clear hb15 HB14
    go_wp2_with (first | (go_at_call 12; fail))
    go_at_call 12
    refine (HTF.out _).mono ?_
    rintro e w16 ⟨rfl, hb16⟩
    have HB16 := Lib.hid (HB15.out.trans (hb16.mono HB15.out.size))
    clear hb16 HB15
    go_wp2_with (first | (go_at_call 12; fail))
    go_at_call 12
    refine (HTF.out _).mono ?_
    rintro e w17 ⟨rfl, hb17⟩
    have HB17 := Lib.hid (HB16.out.trans (hb17.mono HB16.out.size))
    clear hb17 HB16
    go_wp2
    go_ret
    exact ⟨rfl, HB17.out⟩
theorem valueFails_walk (w : World) (p : P) (n : Int) (_hn : -9223372036854775808 ≤ n ∧ n ≤ 9223372036854775807) (op : Int) (_ho : -9223372036854775808 ≤ op ∧ op ≤ 9223372036854775807) (hM : GM w) (hP : GP w) (hU : Lib.Utf8Tabs 4 5 w) (h6 : 5 < w.heap.size) :
    Calls Tryz.prog 5 #[p.val, .int .i64 n, .int .i64 op] w fun e w' => e = .returned (.bool true) ∧ Below w.heap.size w w' := by
  by_cases hg : n < 1 ∨ (1 ≤ n ∧ 7 < n) ∨ ((1 ≤ n ∧ n ≤ 7) ∧ op < 0) ∨ ((1 ≤ n ∧ n ≤ 7) ∧ 0 ≤ op ∧ 4 < op)
  · exact valueFails_guard p n op hg w hM
  · exact valueFails_main p n op (by omega) (by omega) (by omega) (by omega) w hM hP hU h6
end Go.Proofs.YtkobkeopajohiaaGreatDoor
