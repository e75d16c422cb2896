/-
  FUNCTIONS OF NUMBERS, called by name at any numbers: the reference's Call at GCD, LCM.
-/
import Derived.Test.YtkobkeopajohiaaGreatDoorS13
namespace Go.Proofs.YtkobkeopajohiaaGreatDoor
open Go.RowKit Go.Lib
set_option maxHeartbeats 3200000 in
set_option maxRecDepth 100000 in
theorem refCall_GCD (vs : List V) (g cap : Nat) (l : List Int) (v : V) (w : World) (hA : TellsAt w g vs) (hs : ∀ v ∈ vs, v.short 4294967) (hn1 : 1 ≤ vs.length) (hn2 : vs.length ≤ 30) (hnum : nums vs [] = (l, 0)) (hl : ∀ a ∈ l, -999999999999999999 ≤ a ∧ a ≤ 999999999999999999) (hll : l.length = vs.length) (hv : manyF true none l = v) :
    Calls Tryz.prog 15 #[.string ⟨#[71, 67, 68]⟩, .slice (some ⟨g, 0, none⟩) vs.length cap] w fun e w' => e = .returned v.tell ∧ Below w.heap.size w w' := by
  obtain ⟨i0, hi, hz0, hz1, hz2⟩ := info_parts info2i
  obtain ⟨ya, yb, yc, ev⟩ := tell_form v
  have HL : Hid (∀ w, Calls Tryz.prog 39 #[.string ⟨#[71, 67, 68]⟩] w fun e w' => e = .returned (.tuple #[.int .i64 1, .int .i64 30]) ∧ Below w.heap.size w w') := Lib.hid fun w => refLimits_any ⟨#[71, 67, 68]⟩ 1 30 w (by decide +kernel)
  obtain ⟨n, hnn⟩ : ∃ n, vs.length = n := ⟨_, rfl⟩
  rw [hnn] at hn1 hn2 hll ⊢
  have HMa : Hid (∀ g1 cap1 w1, IntAt w1 g1 l → g1 < w1.heap.size → Calls Tryz.prog 78 #[.slice (some ⟨g1, 0, none⟩) n cap1, .bool false] w1 fun e w' => e = .returned (.agg #[.int .i64 ya, .int .i64 yb, .string yc]) ∧ Below w1.heap.size w1 w') := Lib.hid fun g1 cap1 w1 hI hg1 => by
    have := refMany_any true g1 cap1 l v w1 hI hg1 hl (by omega) (fun e => by rw [e] at hll; simp at hll; omega) hv
    rw [ev, hll] at this
    exact this
  rw [ev]
  have HLn := Lib.hid hll
  have HLl := Lib.hid hl
  have HA := Lib.hid hA
  have HS := Lib.hid hs
  have HN := Lib.hid hnn
  have HR := Lib.hid hnum
  have hni1 : ¬ (n : Int) < 1 := by omega
  have hni2 : ¬ (30 : Int) < n := by omega
  clear hA hs hnn hnum hl hll hv ev
  go_enter Tryz.func15, Tryz.ntmps15
  go_wp2_with (first | (go_at_call 39; fail))
  go_at_call 39
  refine (HL.out _).mono ?_
  rintro e w1 ⟨rfl, hb1⟩
  go_wp2
  have hb2 : Below (w.alloc (.cells #[.int .i64 0, .int .i64 0, .string { data := #[] }] 28)).heap.size (w.alloc (.cells #[.int .i64 0, .int .i64 0, .string { data := #[] }] 28)) (w1.alloc (.cells #[] 2)) := hb1.alloc hb1.size _
  have HB2 := Lib.hid hb2
  have ho0 := Lib.hid (owns_empty2 w1)
  have hs1 : Hid ((w.alloc (.cells #[.int .i64 0, .int .i64 0, .string { data := #[] }] 28)).heap.size ≤ w1.heap.size) := Lib.hid hb1.size
  have hs2 : Hid (w1.heap.size ≤ (w1.alloc (.cells #[] 2)).heap.size) := Lib.hid (by simp)
  clear hb1 hb2
  generalize w1.alloc (.cells #[] 2) = w2 at *
  go_loopw [7, 39] (fun vl vi wr => ∃ (k : Nat) (acc : List Int), vi = .int .i64 k ∧ k ≤ n ∧ Hid (acc.length = k) ∧ Hid (wr.ownsRow w1.heap.size 2 1 vl acc.length (acc.map (Value.int .i64))) ∧ Hid (nums (vs.drop k) acc = (l, 0)) ∧ Hid (Below (w.alloc (.cells #[.int .i64 0, .int .i64 0, .string { data := #[] }] 28)).heap.size (w.alloc (.cells #[.int .i64 0, .int .i64 0, .string { data := #[] }] 28)) wr) ∧ Hid (w1.heap.size ≤ wr.heap.size)) (fun _ vi _ => n - (RowKit.intOf vi).toNat)
  case atStart => exact ⟨0, [], rfl, by omega, Lib.hid rfl, ho0, Lib.hid (by rw [List.drop_zero]; exact HR.out), HB2, hs2⟩
  case round =>
    obtain ⟨k, acc, rfl, hk, hlen, hown, hinv, hbl, hwz⟩ := hrel
    clear ho0 HB2 hs2
    by_cases hkn : k < n
    · obtain ⟨u, hu⟩ : ∃ u, vs[k]? = some u := ⟨vs[k]'(by rw [HN.out]; exact hkn), List.getElem?_eq_getElem _⟩
      obtain ⟨ku, nu, su, eu⟩ := tell_form u
      have hA2 := (HA.out.below (w' := (w.alloc (.cells #[.int .i64 0, .int .i64 0, .string { data := #[] }] 28))) ((Below.refl _ _).alloc (Nat.le_refl _) _)).below hbl.out
      obtain ⟨hc0, hc1, hc2⟩ := hA2.2 k u ku nu su hu eu
      obtain ⟨nn, f, hf⟩ : ∃ nn f, u.asNum = (nn, f) := ⟨_, _, rfl⟩
      have hdr : vs.drop k = u :: vs.drop (k + 1) := by
        obtain ⟨e1, e2⟩ := List.getElem?_eq_some_iff.1 hu
        rw [List.drop_eq_getElem_cons e1, e2]
      have hi2 := hinv.out
      rw [hdr, nums_cons _ _ _ _ _ hf] at hi2
      have hf0 : f = 0 := by
        by_cases h : f = 0
        · exact h
        · rw [if_neg h] at hi2; simp at hi2; exact hi2.2
      subst hf0
      rw [if_pos rfl] at hi2
      have HAN := Lib.hid fun w => refAsNumber_any u nn 0 w (short_at HS.out hu) hf
      rw [eu] at HAN
      have HN2 := Lib.hid hi2
      have hkz : k ≤ 1000 := by omega
      clear hi2 hdr hf hu eu hinv hA2
      go_wp2_with (first | (go_at_call 62; fail))
      go_at_call 62
      refine (HAN.out _).mono ?_
      rintro e w3 ⟨rfl, hb3⟩
      have hr3 : Below wr.heap.size wr w3 := ((Below.refl _ _).alloc (Nat.le_refl _) _).trans (hb3.mono (by simp))
      have hb03 := hbl.out.trans (hr3.mono hbl.out.size)
      have hown3 := Lib.hid (owns_below hown.out hr3)
      have hsz3 := hr3.size
      have HL2 := Lib.hid (show acc.length + 1 ≤ 2000 by have := hlen.out; omega)
      have hwz3 : Hid (w1.heap.size ≤ w3.heap.size) := Lib.hid (Nat.le_trans hwz.out hsz3)
      clear hr3 hb3 hc0 hc1 hc2 hown hbl HAN
      go_wp2_with (first | (at_builtin; refine wpList_append_own _ rfl _ _ 102 rfl w1.heap.size 2 i0 (.int .i64 0) 1 8 Tryz.underlying102 hi hz0 hz1 hz2 rfl (by decide) _ _ _ rfl (hown3.out.alloc _) ⟨w3.heap.size, 0, none⟩ 1 1 [.int .i64 nn] rfl rfl ?c1 ?c2 ?c3 ?c4 ?c5 ?_))
      case c1 => exact news_one _ _ _
      case c2 => intro u hu; simp at hu; subst hu; rfl
      case c3 => have := HL2.out; unfold maxLen; omega
      case c4 => have := HL2.out; omega
      case c5 => have := hwz3.out; simp; omega
      · intro v' w4 hown4 hgrow4 _
        have hb04 := Lib.hid ((hb03.alloc hb03.size _).grown hgrow4 (by simp; have := hb03.size; simp at this; omega) (fun k hk => Nat.le_trans hs1.out (owns_row hown3.out k hk)))
        have HO := Lib.hid hown4
        have hwz4 : Hid (w1.heap.size ≤ w4.heap.size) := Lib.hid (by have := hgrow4.size; have := hwz3.out; simp at *; omega)
        clear hown4 hgrow4 hb03 hown3
        go_wp2
        go_roundw
        case rel => exact ⟨k + 1, acc ++ [nn], rfl, by omega, Lib.hid (by simp [hlen.out]), Lib.hid (by simpa using HO.out), HN2, hb04, hwz4⟩
        case measure => simp [RowKit.intOf]; omega
    · obtain rfl : k = n := by omega
      have hac : acc = l := by
        have := hinv.out
        rw [List.drop_of_length_le (by rw [HN.out]; exact Nat.le_refl _)] at this
        simpa [nums] using this
      subst hac
      have ho := hown.out
      obtain ⟨g1, cap1, rfl, _, _⟩ := ho.form (by rw [HLn.out]; omega)
      have hI : IntAt wr g1 acc := fun i x hx => by
        have hil : i < acc.length := by
          rcases Nat.lt_or_ge i acc.length with h | h
          · exact h
          · rw [List.getElem?_eq_none h] at hx; simp at hx
        refine (ho.cellAt i (by omega)).trans ?_
        rw [List.getElem?_map, hx]
        rfl
      obtain ⟨x0, hx0⟩ : ∃ x, acc[0]? = some x := ⟨acc[0]'(by rw [HLn.out]; omega), List.getElem?_eq_getElem _⟩
      have hc0 := hI 0 x0 hx0
      have hg1 : g1 < wr.heap.size := lt_of_cell hc0
      have HM := Lib.hid (HMa.out g1 cap1 wr hI hg1)
      have hbw := hbl.out
      rw [HLn.out]
      by_cases h2 : 1 < k
      · obtain ⟨x1, hx1⟩ : ∃ x, acc[1]? = some x := ⟨acc[1]'(by rw [HLn.out]; omega), List.getElem?_eq_getElem _⟩
        have hc1 := hI 1 x1 hx1
        have hxb := HLl.out x1 (List.mem_of_getElem? hx1)
        have hqb := tdiv_bd x1 10000 hxb
        obtain ⟨q, hq⟩ : ∃ q, x1.tdiv 10000 = q := ⟨_, rfl⟩
        rw [hq] at hqb
        obtain ⟨q0, q1⟩ := hqb
        have h2i : (1 : Int) < k := by omega
        clear ho hown hinv hbl hwz hlen HR HN HS HA hkn HMa hI hx0 hx1 HLn HLl hxb
        go_wp2_with (first | (go_at_call 78; fail))
        go_at_call 78
        refine HM.out.mono ?_
        rintro e w3 ⟨rfl, hbx⟩
        have hb3 := hbw.trans (hbx.mono hbw.size)
        clear hbx hbw
        obtain ⟨hc', hf', hlt', hb0⟩ := out_ready hb3
        go_wp2
        obtain ⟨e0, e1, e2⟩ := set_three w3 w.heap.size (.int .i64 ya) (.int .i64 yb) (.string yc) (hc' 0) (hc' 1) (hc' 2)
        have hbf := set_below hb0 (.int .i64 ya) (.int .i64 yb) (.string yc)
        generalize (((w3.setCell ⟨w.heap.size, 0, none⟩ (.int .i64 ya)).setCell ⟨w.heap.size, 1, none⟩ (.int .i64 yb)).setCell ⟨w.heap.size, 2, none⟩ (.string yc)) = wf at *
        refine bodyPost_ret (v := .agg #[.int .i64 ya, .int .i64 yb, .string yc]) (by simp [results, Tryz.results15, go_sem, e0, e1, e2]) rfl ?_
        exact ⟨rfl, hbf⟩
      · have h2i : ¬ (1 : Int) < k := by omega
        clear ho hown hinv hbl hwz hlen HR HN HS HA hkn HMa hI hx0 HLn HLl
        go_wp2_with (first | (go_at_call 78; fail))
        go_at_call 78
        refine HM.out.mono ?_
        rintro e w3 ⟨rfl, hbx⟩
        have hb3 := hbw.trans (hbx.mono hbw.size)
        clear hbx hbw
        obtain ⟨hc', hf', hlt', hb0⟩ := out_ready hb3
        go_wp2
        obtain ⟨e0, e1, e2⟩ := set_three w3 w.heap.size (.int .i64 ya) (.int .i64 yb) (.string yc) (hc' 0) (hc' 1) (hc' 2)
        have hbf := set_below hb0 (.int .i64 ya) (.int .i64 yb) (.string yc)
        generalize (((w3.setCell ⟨w.heap.size, 0, none⟩ (.int .i64 ya)).setCell ⟨w.heap.size, 1, none⟩ (.int .i64 yb)).setCell ⟨w.heap.size, 2, none⟩ (.string yc)) = wf at *
        refine bodyPost_ret (v := .agg #[.int .i64 ya, .int .i64 yb, .string yc]) (by simp [results, Tryz.results15, go_sem, e0, e1, e2]) rfl ?_
        exact ⟨rfl, hbf⟩
set_option maxHeartbeats 3200000 in
set_option maxRecDepth 100000 in
theorem refCall_LCM (vs : List V) (g cap : Nat) (l : List Int) (v : V) (w : World) (hA : TellsAt w g vs) (hs : ∀ v ∈ vs, v.short 4294967) (hn1 : 1 ≤ vs.length) (hn2 : vs.length ≤ 30) (hnum : nums vs [] = (l, 0)) (hl : ∀ a ∈ l, -999999999999999999 ≤ a ∧ a ≤ 999999999999999999) (hll : l.length = vs.length) (hv : manyF false none l = v) :
    Calls Tryz.prog 15 #[.string ⟨#[76, 67, 77]⟩, .slice (some ⟨g, 0, none⟩) vs.length cap] w fun e w' => e = .returned v.tell ∧ Below w.heap.size w w' := by
  obtain ⟨i0, hi, hz0, hz1, hz2⟩ := info_parts info2i
  obtain ⟨ya, yb, yc, ev⟩ := tell_form v
  have HL : Hid (∀ w, Calls Tryz.prog 39 #[.string ⟨#[76, 67, 77]⟩] w fun e w' => e = .returned (.tuple #[.int .i64 1, .int .i64 30]) ∧ Below w.heap.size w w') := Lib.hid fun w => refLimits_any ⟨#[76, 67, 77]⟩ 1 30 w (by decide +kernel)
  obtain ⟨n, hnn⟩ : ∃ n, vs.length = n := ⟨_, rfl⟩
  rw [hnn] at hn1 hn2 hll ⊢
  have HMa : Hid (∀ g1 cap1 w1, IntAt w1 g1 l → g1 < w1.heap.size → Calls Tryz.prog 78 #[.slice (some ⟨g1, 0, none⟩) n cap1, .bool true] w1 fun e w' => e = .returned (.agg #[.int .i64 ya, .int .i64 yb, .string yc]) ∧ Below w1.heap.size w1 w') := Lib.hid fun g1 cap1 w1 hI hg1 => by
    have := refMany_any false g1 cap1 l v w1 hI hg1 hl (by omega) (fun e => by rw [e] at hll; simp at hll; omega) hv
    rw [ev, hll] at this
    exact this
  rw [ev]
  have HLn := Lib.hid hll
  have HLl := Lib.hid hl
  have HA := Lib.hid hA
  have HS := Lib.hid hs
  have HN := Lib.hid hnn
  have HR := Lib.hid hnum
  have hni1 : ¬ (n : Int) < 1 := by omega
  have hni2 : ¬ (30 : Int) < n := by omega
  clear hA hs hnn hnum hl hll hv ev
  go_enter Tryz.func15, Tryz.ntmps15
  go_wp2_with (first | (go_at_call 39; fail))
  go_at_call 39
  refine (HL.out _).mono ?_
  rintro e w1 ⟨rfl, hb1⟩
  go_wp2
  have hb2 : Below (w.alloc (.cells #[.int .i64 0, .int .i64 0, .string { data := #[] }] 28)).heap.size (w.alloc (.cells #[.int .i64 0, .int .i64 0, .string { data := #[] }] 28)) (w1.alloc (.cells #[] 2)) := hb1.alloc hb1.size _
  have HB2 := Lib.hid hb2
  have ho0 := Lib.hid (owns_empty2 w1)
  have hs1 : Hid ((w.alloc (.cells #[.int .i64 0, .int .i64 0, .string { data := #[] }] 28)).heap.size ≤ w1.heap.size) := Lib.hid hb1.size
  have hs2 : Hid (w1.heap.size ≤ (w1.alloc (.cells #[] 2)).heap.size) := Lib.hid (by simp)
  clear hb1 hb2
  generalize w1.alloc (.cells #[] 2) = w2 at *
  go_loopw [7, 39] (fun vl vi wr => ∃ (k : Nat) (acc : List Int), vi = .int .i64 k ∧ k ≤ n ∧ Hid (acc.length = k) ∧ Hid (wr.ownsRow w1.heap.size 2 1 vl acc.length (acc.map (Value.int .i64))) ∧ Hid (nums (vs.drop k) acc = (l, 0)) ∧ Hid (Below (w.alloc (.cells #[.int .i64 0, .int .i64 0, .string { data := #[] }] 28)).heap.size (w.alloc (.cells #[.int .i64 0, .int .i64 0, .string { data := #[] }] 28)) wr) ∧ Hid (w1.heap.size ≤ wr.heap.size)) (fun _ vi _ => n - (RowKit.intOf vi).toNat)
  case atStart => exact ⟨0, [], rfl, by omega, Lib.hid rfl, ho0, Lib.hid (by rw [List.drop_zero]; exact HR.out), HB2, hs2⟩
  case round =>
    obtain ⟨k, acc, rfl, hk, hlen, hown, hinv, hbl, hwz⟩ := hrel
    clear ho0 HB2 hs2
    by_cases hkn : k < n
    · obtain ⟨u, hu⟩ : ∃ u, vs[k]? = some u := ⟨vs[k]'(by rw [HN.out]; exact hkn), List.getElem?_eq_getElem _⟩
      obtain ⟨ku, nu, su, eu⟩ := tell_form u
      have hA2 := (HA.out.below (w' := (w.alloc (.cells #[.int .i64 0, .int .i64 0, .string { data := #[] }] 28))) ((Below.refl _ _).alloc (Nat.le_refl _) _)).below hbl.out
      obtain ⟨hc0, hc1, hc2⟩ := hA2.2 k u ku nu su hu eu
      obtain ⟨nn, f, hf⟩ : ∃ nn f, u.asNum = (nn, f) := ⟨_, _, rfl⟩
      have hdr : vs.drop k = u :: vs.drop (k + 1) := by
        obtain ⟨e1, e2⟩ := List.getElem?_eq_some_iff.1 hu
        rw [List.drop_eq_getElem_cons e1, e2]
      have hi2 := hinv.out
      rw [hdr, nums_cons _ _ _ _ _ hf] at hi2
      have hf0 : f = 0 := by
        by_cases h : f = 0
        · exact h
        · rw [if_neg h] at hi2; simp at hi2; exact hi2.2
      subst hf0
      rw [if_pos rfl] at hi2
      have HAN := Lib.hid fun w => refAsNumber_any u nn 0 w (short_at HS.out hu) hf
      rw [eu] at HAN
      have HN2 := Lib.hid hi2
      have hkz : k ≤ 1000 := by omega
      clear hi2 hdr hf hu eu hinv hA2
      go_wp2_with (first | (go_at_call 62; fail))
      go_at_call 62
      refine (HAN.out _).mono ?_
      rintro e w3 ⟨rfl, hb3⟩
      have hr3 : Below wr.heap.size wr w3 := ((Below.refl _ _).alloc (Nat.le_refl _) _).trans (hb3.mono (by simp))
      have hb03 := hbl.out.trans (hr3.mono hbl.out.size)
      have hown3 := Lib.hid (owns_below hown.out hr3)
      have hsz3 := hr3.size
      have HL2 := Lib.hid (show acc.length + 1 ≤ 2000 by have := hlen.out; omega)
      have hwz3 : Hid (w1.heap.size ≤ w3.heap.size) := Lib.hid (Nat.le_trans hwz.out hsz3)
      clear hr3 hb3 hc0 hc1 hc2 hown hbl HAN
      go_wp2_with (first | (at_builtin; refine wpList_append_own _ rfl _ _ 102 rfl w1.heap.size 2 i0 (.int .i64 0) 1 8 Tryz.underlying102 hi hz0 hz1 hz2 rfl (by decide) _ _ _ rfl (hown3.out.alloc _) ⟨w3.heap.size, 0, none⟩ 1 1 [.int .i64 nn] rfl rfl ?c1 ?c2 ?c3 ?c4 ?c5 ?_))
      case c1 => exact news_one _ _ _
      case c2 => intro u hu; simp at hu; subst hu; rfl
      case c3 => have := HL2.out; unfold maxLen; omega
      case c4 => have := HL2.out; omega
      case c5 => have := hwz3.out; simp; omega
      · intro v' w4 hown4 hgrow4 _
        have hb04 := Lib.hid ((hb03.alloc hb03.size _).grown hgrow4 (by simp; have := hb03.size; simp at this; omega) (fun k hk => Nat.le_trans hs1.out (owns_row hown3.out k hk)))
        have HO := Lib.hid hown4
        have hwz4 : Hid (w1.heap.size ≤ w4.heap.size) := Lib.hid (by have := hgrow4.size; have := hwz3.out; simp at *; omega)
        clear hown4 hgrow4 hb03 hown3
        go_wp2
        go_roundw
        case rel => exact ⟨k + 1, acc ++ [nn], rfl, by omega, Lib.hid (by simp [hlen.out]), Lib.hid (by simpa using HO.out), HN2, hb04, hwz4⟩
        case measure => simp [RowKit.intOf]; omega
    · obtain rfl : k = n := by omega
      have hac : acc = l := by
        have := hinv.out
        rw [List.drop_of_length_le (by rw [HN.out]; exact Nat.le_refl _)] at this
        simpa [nums] using this
      subst hac
      have ho := hown.out
      obtain ⟨g1, cap1, rfl, _, _⟩ := ho.form (by rw [HLn.out]; omega)
      have hI : IntAt wr g1 acc := fun i x hx => by
        have hil : i < acc.length := by
          rcases Nat.lt_or_ge i acc.length with h | h
          · exact h
          · rw [List.getElem?_eq_none h] at hx; simp at hx
        refine (ho.cellAt i (by omega)).trans ?_
        rw [List.getElem?_map, hx]
        rfl
      obtain ⟨x0, hx0⟩ : ∃ x, acc[0]? = some x := ⟨acc[0]'(by rw [HLn.out]; omega), List.getElem?_eq_getElem _⟩
      have hc0 := hI 0 x0 hx0
      have hg1 : g1 < wr.heap.size := lt_of_cell hc0
      have HM := Lib.hid (HMa.out g1 cap1 wr hI hg1)
      have hbw := hbl.out
      rw [HLn.out]
      by_cases h2 : 1 < k
      · obtain ⟨x1, hx1⟩ : ∃ x, acc[1]? = some x := ⟨acc[1]'(by rw [HLn.out]; omega), List.getElem?_eq_getElem _⟩
        have hc1 := hI 1 x1 hx1
        have hxb := HLl.out x1 (List.mem_of_getElem? hx1)
        have hqb := tdiv_bd x1 10000 hxb
        obtain ⟨q, hq⟩ : ∃ q, x1.tdiv 10000 = q := ⟨_, rfl⟩
        rw [hq] at hqb
        obtain ⟨q0, q1⟩ := hqb
        have h2i : (1 : Int) < k := by omega
        clear ho hown hinv hbl hwz hlen HR HN HS HA hkn HMa hI hx0 hx1 HLn HLl hxb
        go_wp2_with (first | (go_at_call 78; fail))
        go_at_call 78
        refine HM.out.mono ?_
        rintro e w3 ⟨rfl, hbx⟩
        have hb3 := hbw.trans (hbx.mono hbw.size)
        clear hbx hbw
        obtain ⟨hc', hf', hlt', hb0⟩ := out_ready hb3
        go_wp2
        obtain ⟨e0, e1, e2⟩ := set_three w3 w.heap.size (.int .i64 ya) (.int .i64 yb) (.string yc) (hc' 0) (hc' 1) (hc' 2)
        have hbf := set_below hb0 (.int .i64 ya) (.int .i64 yb) (.string yc)
        generalize (((w3.setCell ⟨w.heap.size, 0, none⟩ (.int .i64 ya)).setCell ⟨w.heap.size, 1, none⟩ (.int .i64 yb)).setCell ⟨w.heap.size, 2, none⟩ (.string yc)) = wf at *
        refine bodyPost_ret (v := .agg #[.int .i64 ya, .int .i64 yb, .string yc]) (by simp [results, Tryz.results15, go_sem, e0, e1, e2]) rfl ?_
        exact ⟨rfl, hbf⟩
      · have h2i : ¬ (1 : Int) < k := by omega
        clear ho hown hinv hbl hwz hlen HR HN HS HA hkn HMa hI hx0 HLn HLl
        go_wp2_with (first | (go_at_call 78; fail))
        go_at_call 78
        refine HM.out.mono ?_
        rintro e w3 ⟨rfl, hbx⟩
        have hb3 := hbw.trans (hbx.mono hbw.size)
        clear hbx hbw
        obtain ⟨hc', hf', hlt', hb0⟩ := out_ready hb3
        go_wp2
        obtain ⟨e0, e1, e2⟩ := set_three w3 w.heap.size (.int .i64 ya) (.int .i64 yb) (.string yc) (hc' 0) (hc' 1) (hc' 2)
        have hbf := set_below hb0 (.int .i64 ya) (.int .i64 yb) (.string yc)
        generalize (((w3.setCell ⟨w.heap.size, 0, none⟩ (.int .i64 ya)).setCell ⟨w.heap.size, 1, none⟩ (.int .i64 yb)).setCell ⟨w.heap.size, 2, none⟩ (.string yc)) = wf at *
        refine bodyPost_ret (v := .agg #[.int .i64 ya, .int .i64 yb, .string yc]) (by simp [results, Tryz.results15, go_sem, e0, e1, e2]) rfl ?_
        exact ⟨rfl, hbf⟩
end Go.Proofs.YtkobkeopajohiaaGreatDoor
