/-
  FUNCTIONS OF NUMBERS, called by name: the reference's Call where there is no such function, where the count is wrong, where an argument is no number.
-/
import Derived.Test.YtkobkeopajohiaaGreatDoorS13
import Derived.Deep.QuietTactic
import Derived.BigQuiet
namespace Go.Proofs.YtkobkeopajohiaaGreatDoor
open Go.RowKit Go.Lib
set_option maxRecDepth 100000 in
theorem refCall_unknown (s : ByteArray) (ad : Option Addr) (n cap : Nat) (w : World) (h : lim s = (0, 0)) :
    Calls Tryz.prog 15 #[.string s, .slice ad n cap] w fun e w' => e = .returned (V.fail 6).tell ∧ Below w.heap.size w w' := by
  have HL := Lib.hid fun w => refLimits_any s 0 0 w h
  obtain ⟨ya, yb, yc, ev⟩ := tell_form (V.fail 6)
  have HC : Hid (∀ w, Calls Tryz.prog 61 #[.int .i64 6] w fun e w' => e = .returned (.agg #[.int .i64 ya, .int .i64 yb, .string yc]) ∧ Below w.heap.size w w') := Lib.hid fun w => by
    have := refFail_any 6 w
    rw [ev] at this
    exact this
  rw [ev]
  clear h ev
  go_enter Tryz.func15, Tryz.ntmps15
  go_wp2_with (first | (go_at_call 39; fail))
  go_at_call 39
  refine (HL.out _).mono ?_
  rintro e w1 ⟨rfl, hb1⟩
  go_wp2_with (first | (go_at_call 61; fail))
  go_at_call 61
  refine (HC.out _).mono ?_
  rintro e w3 ⟨rfl, hbx⟩
  have hb3 := hb1.trans (hbx.mono hb1.size)
  clear hbx hb1
  obtain ⟨hc', hf', hlt', hb0⟩ := out_ready hb3
  go_wp2
  obtain ⟨e0, e1, e2⟩ := set_three w3 w.heap.size (.int .i64 ya) (.int .i64 yb) (.string yc) (hc' 0) (hc' 1) (hc' 2)
  have hbf := set_below hb0 (.int .i64 ya) (.int .i64 yb) (.string yc)
  generalize (((w3.setCell ⟨w.heap.size, 0, none⟩ (.int .i64 ya)).setCell ⟨w.heap.size, 1, none⟩ (.int .i64 yb)).setCell ⟨w.heap.size, 2, none⟩ (.string yc)) = wf at *
  refine bodyPost_ret (v := .agg #[.int .i64 ya, .int .i64 yb, .string yc]) (by simp [results, Tryz.results15, go_sem, e0, e1, e2]) rfl ?_
  exact ⟨rfl, hbf⟩
set_option maxRecDepth 100000 in
theorem refCall_count (s : ByteArray) (ad : Option Addr) (n cap : Nat) (lo hi : Int) (w : World) (h : lim s = (lo, hi)) (h0 : 0 < hi) (hc : (n : Int) < lo ∨ hi < n) :
    Calls Tryz.prog 15 #[.string s, .slice ad n cap] w fun e w' => e = .returned (V.fail 3).tell ∧ Below w.heap.size w w' := by
  have HL := Lib.hid fun w => refLimits_any s lo hi w h
  obtain ⟨ya, yb, yc, ev⟩ := tell_form (V.fail 3)
  have HC : Hid (∀ w, Calls Tryz.prog 61 #[.int .i64 3] w fun e w' => e = .returned (.agg #[.int .i64 ya, .int .i64 yb, .string yc]) ∧ Below w.heap.size w w') := Lib.hid fun w => by
    have := refFail_any 3 w
    rw [ev] at this
    exact this
  rw [ev]
  clear h ev
  have hz : (hi == 0) = false := by rw [beq_eq_false_iff_ne]; omega
  rcases hc with hc | hc
  all_goals
    go_enter Tryz.func15, Tryz.ntmps15
    go_wp2_with (first | (go_at_call 39; fail))
    go_at_call 39
    refine (HL.out _).mono ?_
    rintro e w1 ⟨rfl, hb1⟩
    go_wp2_with (first | (go_at_call 61; fail))
    all_goals
      go_at_call 61
      refine (HC.out _).mono ?_
      rintro e w3 ⟨rfl, hbx⟩
      have hb3 := hb1.trans (hbx.mono hb1.size)
      clear hbx hb1
      obtain ⟨hc', hf', hlt', hb0⟩ := out_ready hb3
      go_wp2
      obtain ⟨e0, e1, e2⟩ := set_three w3 w.heap.size (.int .i64 ya) (.int .i64 yb) (.string yc) (hc' 0) (hc' 1) (hc' 2)
      have hbf := set_below hb0 (.int .i64 ya) (.int .i64 yb) (.string yc)
      generalize (((w3.setCell ⟨w.heap.size, 0, none⟩ (.int .i64 ya)).setCell ⟨w.heap.size, 1, none⟩ (.int .i64 yb)).setCell ⟨w.heap.size, 2, none⟩ (.string yc)) = wf at *
      refine bodyPost_ret (v := .agg #[.int .i64 ya, .int .i64 yb, .string yc]) (by simp [results, Tryz.results15, go_sem, e0, e1, e2]) rfl ?_
      exact ⟨rfl, hbf⟩
set_option maxHeartbeats 3200000 in
set_option maxRecDepth 100000 in
theorem refCall_fail (s : ByteArray) (vs : List V) (g cap : Nat) (lo hx ff : Int) (w : World) (hA : TellsAt w g vs) (hs : ∀ v ∈ vs, v.short 4294967) (h : lim s = (lo, hx)) (h0 : 0 < hx) (hi30 : hx ≤ 30) (hc : lo ≤ (vs.length : Int) ∧ (vs.length : Int) ≤ hx) (hnum : nums vs [] = ([], ff)) (hff : ff ≠ 0) :
    Calls Tryz.prog 15 #[.string s, .slice (some ⟨g, 0, none⟩) vs.length cap] w fun e w' => e = .returned (V.fail ff).tell ∧ Below w.heap.size w w' := by
  obtain ⟨i0, hi, hz0, hz1, hz2⟩ := info_parts info2i
  have HL := Lib.hid fun w => refLimits_any s lo hx w h
  obtain ⟨ya, yb, yc, ev⟩ := tell_form (V.fail ff)
  have HC : Hid (∀ w, Calls Tryz.prog 61 #[.int .i64 ff] w fun e w' => e = .returned (.agg #[.int .i64 ya, .int .i64 yb, .string yc]) ∧ Below w.heap.size w w') := Lib.hid fun w => by
    have := refFail_any ff w
    rw [ev] at this
    exact this
  rw [ev]
  obtain ⟨n, hnn⟩ : ∃ n, vs.length = n := ⟨_, rfl⟩
  rw [hnn] at hc ⊢
  have HA := Lib.hid hA
  have HS := Lib.hid hs
  have HN := Lib.hid hnn
  have HR := Lib.hid hnum
  obtain ⟨hc1, hc2⟩ := hc
  have hc3 : ¬ (n : Int) < lo := by omega
  have hc4 : ¬ hx < (n : Int) := by omega
  have hn2 : n ≤ 30 := by omega
  have hz : (hx == 0) = false := by rw [beq_eq_false_iff_ne]; omega
  have hfz : (ff == 0) = false := by rw [beq_eq_false_iff_ne]; exact hff
  clear hA hs hnn hnum ev h
  go_enter Tryz.func15, Tryz.ntmps15
  go_wp2_with (first | (go_at_call 39; fail))
  go_at_call 39
  refine (HL.out _).mono ?_
  rintro e w1 ⟨rfl, hb1⟩
  go_wp2
  have hb2 : Below (w.alloc (.cells #[.int .i64 0, .int .i64 0, .string { data := #[] }] 28)).heap.size (w.alloc (.cells #[.int .i64 0, .int .i64 0, .string { data := #[] }] 28)) (w1.alloc (.cells #[] 2)) := hb1.alloc hb1.size _
  have HB2 := Lib.hid hb2
  have ho0 := Lib.hid (owns_empty2 w1)
  have hs1 : Hid ((w.alloc (.cells #[.int .i64 0, .int .i64 0, .string { data := #[] }] 28)).heap.size ≤ w1.heap.size) := Lib.hid hb1.size
  have hs2 : Hid (w1.heap.size ≤ (w1.alloc (.cells #[] 2)).heap.size) := Lib.hid (by simp)
  clear hb1 hb2
  generalize w1.alloc (.cells #[] 2) = w2 at *
  go_loopw [7, 39] (fun vl vi wr => ∃ (k : Nat) (acc : List Int), vi = .int .i64 k ∧ k ≤ n ∧ Hid (acc.length = k) ∧ Hid (wr.ownsRow w1.heap.size 2 1 vl acc.length (acc.map (Value.int .i64))) ∧ Hid (nums (vs.drop k) acc = ([], ff)) ∧ Hid (Below (w.alloc (.cells #[.int .i64 0, .int .i64 0, .string { data := #[] }] 28)).heap.size (w.alloc (.cells #[.int .i64 0, .int .i64 0, .string { data := #[] }] 28)) wr) ∧ Hid (w1.heap.size ≤ wr.heap.size)) (fun _ vi _ => n - (RowKit.intOf vi).toNat)
  case atStart => exact ⟨0, [], rfl, by omega, Lib.hid rfl, ho0, Lib.hid (by rw [List.drop_zero]; exact HR.out), HB2, hs2⟩
  case round =>
    obtain ⟨k, acc, rfl, hk, hlen, hown, hinv, hbl, hwz⟩ := hrel
    clear ho0 HB2 hs2
    by_cases hkn : k < n
    · obtain ⟨u, hu⟩ : ∃ u, vs[k]? = some u := ⟨vs[k]'(by rw [HN.out]; exact hkn), List.getElem?_eq_getElem _⟩
      obtain ⟨ku, nu, su, eu⟩ := tell_form u
      have hA2 := (HA.out.below (w' := (w.alloc (.cells #[.int .i64 0, .int .i64 0, .string { data := #[] }] 28))) ((Below.refl _ _).alloc (Nat.le_refl _) _)).below hbl.out
      obtain ⟨hc0, hc1, hc2⟩ := hA2.2 k u ku nu su hu eu
      obtain ⟨nn, f, hf⟩ : ∃ nn f, u.asNum = (nn, f) := ⟨_, _, rfl⟩
      have hdr : vs.drop k = u :: vs.drop (k + 1) := by
        obtain ⟨e1, e2⟩ := List.getElem?_eq_some_iff.1 hu
        rw [List.drop_eq_getElem_cons e1, e2]
      have hi2 := hinv.out
      rw [hdr, nums_cons _ _ _ _ _ hf] at hi2
      by_cases hf0 : f = 0
      · subst hf0
        rw [if_pos rfl] at hi2
        have HAN := Lib.hid fun w => refAsNumber_any u nn 0 w (short_at HS.out hu) hf
        rw [eu] at HAN
        have HN2 := Lib.hid hi2
        have hkz : k ≤ 1000 := by omega
        clear hi2 hdr hf hu eu hinv hA2
        go_wp2_with (first | (go_at_call 62; fail))
        go_at_call 62
        refine (HAN.out _).mono ?_
        rintro e w3 ⟨rfl, hb3⟩
        have hr3 : Below wr.heap.size wr w3 := ((Below.refl _ _).alloc (Nat.le_refl _) _).trans (hb3.mono (by simp))
        have hb03 := hbl.out.trans (hr3.mono hbl.out.size)
        have hown3 := Lib.hid (owns_below hown.out hr3)
        have hsz3 := hr3.size
        have HL2 := Lib.hid (show acc.length + 1 ≤ 2000 by have := hlen.out; omega)
        have hwz3 : Hid (w1.heap.size ≤ w3.heap.size) := Lib.hid (Nat.le_trans hwz.out hsz3)
        clear hr3 hb3 hc0 hc1 hc2 hown hbl HAN
        go_wp2_with (first | (at_builtin; refine wpList_append_own _ rfl _ _ 102 rfl w1.heap.size 2 i0 (.int .i64 0) 1 8 Tryz.underlying102 hi hz0 hz1 hz2 rfl (by decide) _ _ _ rfl (hown3.out.alloc _) ⟨w3.heap.size, 0, none⟩ 1 1 [.int .i64 nn] rfl rfl ?c1 ?c2 ?c3 ?c4 ?c5 ?_))
        case c1 => exact news_one _ _ _
        case c2 => intro u hu; simp at hu; subst hu; rfl
        case c3 => have := HL2.out; unfold maxLen; omega
        case c4 => have := HL2.out; omega
        case c5 => have := hwz3.out; simp; omega
        · intro v' w4 hown4 hgrow4 _
          have hb04 := Lib.hid ((hb03.alloc hb03.size _).grown hgrow4 (by simp; have := hb03.size; simp at this; omega) (fun k hk => Nat.le_trans hs1.out (owns_row hown3.out k hk)))
          have HO := Lib.hid hown4
          have hwz4 : Hid (w1.heap.size ≤ w4.heap.size) := Lib.hid (by have := hgrow4.size; have := hwz3.out; simp at *; omega)
          clear hown4 hgrow4 hb03 hown3
          go_wp2
          go_roundw
          case rel => exact ⟨k + 1, acc ++ [nn], rfl, by omega, Lib.hid (by simp [hlen.out]), Lib.hid (by simpa using HO.out), HN2, hb04, hwz4⟩
          case measure => simp [RowKit.intOf]; omega
      · rw [if_neg hf0] at hi2
        obtain rfl : f = ff := by simpa using hi2
        have HAN := Lib.hid fun w => refAsNumber_any u nn f w (short_at HS.out hu) hf
        rw [eu] at HAN
        clear hi2 hdr hf hu eu hinv hA2
        go_wp2_with (first | (go_at_call 62; fail))
        go_at_call 62
        refine (HAN.out _).mono ?_
        rintro e w3 ⟨rfl, hb3⟩
        have hr3 : Below wr.heap.size wr w3 := ((Below.refl _ _).alloc (Nat.le_refl _) _).trans (hb3.mono (by simp))
        have hb03 := hbl.out.trans (hr3.mono hbl.out.size)
        clear hr3 hb3 hc0 hc1 hc2 hown hbl HAN
        go_wp2_with (first | (go_at_call 61; fail))
        go_at_call 61
        refine (HC.out _).mono ?_
        rintro e w4 ⟨rfl, hbx⟩
        have hb3 := hb03.trans (hbx.mono hb03.size)
        clear hbx hb03
        obtain ⟨hc', hf', hlt', hb0⟩ := out_ready hb3
        go_wp2
        obtain ⟨e0, e1, e2⟩ := set_three w4 w.heap.size (.int .i64 ya) (.int .i64 yb) (.string yc) (hc' 0) (hc' 1) (hc' 2)
        have hbf := set_below hb0 (.int .i64 ya) (.int .i64 yb) (.string yc)
        generalize (((w4.setCell ⟨w.heap.size, 0, none⟩ (.int .i64 ya)).setCell ⟨w.heap.size, 1, none⟩ (.int .i64 yb)).setCell ⟨w.heap.size, 2, none⟩ (.string yc)) = wf at *
        refine bodyPost_ret (v := .agg #[.int .i64 ya, .int .i64 yb, .string yc]) (by simp [results, Tryz.results15, go_sem, e0, e1, e2]) rfl ?_
        exact ⟨rfl, hbf⟩
    · exfalso
      have := hinv.out
      rw [List.drop_of_length_le (by rw [HN.out]; omega)] at this
      simp [nums] at this
      exact hff this.2.symm
end Go.Proofs.YtkobkeopajohiaaGreatDoor
