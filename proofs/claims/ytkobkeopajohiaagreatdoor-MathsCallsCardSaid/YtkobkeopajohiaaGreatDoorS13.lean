/-
  FUNCTIONS OF NUMBERS, called by name at any numbers: the reference's Call at one number.
-/
import Derived.Test.YtkobkeopajohiaaGreatDoorS12
import Derived.Test.YtkobkeopajohiaaGreatDoorS8
import Derived.Test.YtkobkeopajohiaaGreatDoorS9
import Derived.Deep.QuietTactic
import Derived.BigQuiet
namespace Go.Proofs.YtkobkeopajohiaaGreatDoor
open Go.RowKit Go.Lib
/-- block g holds these values as plain data -/
def TellsAt (w : World) (g : Nat) (vs : List V) : Prop := g < w.heap.size ∧ ∀ i v k n s, vs[i]? = some v → v.tell = .agg #[.int .i64 k, .int .i64 n, .string s] →
  w.cell? ⟨g, i * 3, none⟩ = some (.int .i64 k) ∧ w.cell? ⟨g, i * 3 + 1, none⟩ = some (.int .i64 n) ∧ w.cell? ⟨g, i * 3 + 2, none⟩ = some (.string s)
theorem TellsAt.below {w w' : World} {g : Nat} {vs : List V} (h : TellsAt w g vs) (hb : Below w.heap.size w w') : TellsAt w' g vs :=
  ⟨Nat.lt_of_lt_of_le h.1 hb.size, fun i v k n s hv ht => ⟨(hb.cell h.1).trans (h.2 i v k n s hv ht).1, (hb.cell h.1).trans (h.2 i v k n s hv ht).2.1, (hb.cell h.1).trans (h.2 i v k n s hv ht).2.2⟩⟩
theorem info2i : (Tryz.prog.info? 2).map (fun i => (i.zero, i.size, i.bytes)) = some (some (.int .i64 0), 1, 8) := by kernel_rfl
theorem owns_empty2 (w : World) : (w.alloc (.cells #[] 2)).ownsRow w.heap.size 2 1 (.slice (some ⟨w.heap.size, 0, none⟩) 0 0) 0 [] :=
  ⟨rfl, .inr ⟨w.heap.size, 0, #[], rfl, Nat.le_refl _, last_block _ _ _ rfl, Nat.le_refl _, Nat.zero_le _, rfl, rfl⟩⟩
set_option maxHeartbeats 3200000 in
set_option maxRecDepth 100000 in
theorem refCall_ABS1 (vs : List V) (g cap : Nat) (a : Int) (v : V) (w : World) (hA : TellsAt w g vs) (hs : ∀ v ∈ vs, v.short 4294967) (hlen : vs.length = 1) (hnum : nums vs [] = ([a], 0)) (_ha : -999999999999999999 ≤ a ∧ a ≤ 999999999999999999) (hv : V.num (a.natAbs : Int) = v) :
    Calls Tryz.prog 15 #[.string ⟨#[65, 66, 83]⟩, .slice (some ⟨g, 0, none⟩) 1 cap] w fun e w' => e = .returned v.tell ∧ Below w.heap.size w w' := by
  obtain ⟨i0, hi, hz0, hz1, hz2⟩ := info_parts info2i
  obtain ⟨ya, yb, yc, ev⟩ := tell_form v
  have HL : Hid (∀ w, Calls Tryz.prog 39 #[.string ⟨#[65, 66, 83]⟩] w fun e w' => e = .returned (.tuple #[.int .i64 1, .int .i64 1]) ∧ Below w.heap.size w w') := Lib.hid fun w => refLimits_any ⟨#[65, 66, 83]⟩ 1 1 w (by decide +kernel)
  have HX := Lib.hid fun w => refSize_any a w (by omega) (by omega)
  have hab : (a.natAbs : Int) ≤ 999999999999999999 := by omega
  have hab0 : 0 ≤ (a.natAbs : Int) := by omega
  have HC : Hid (∀ w, Calls Tryz.prog 63 #[.int .i64 ((a.natAbs : Int))] w fun e w' => e = .returned (.agg #[.int .i64 ya, .int .i64 yb, .string yc]) ∧ Below w.heap.size w w') := Lib.hid fun w => by
    have := refNum_any ((a.natAbs : Int)) w
    rw [hv, ev] at this
    exact this
  rw [ev]
  clear hv ev
  generalize (a.natAbs : Int) = A at *
  have HA := Lib.hid hA
  have HS := Lib.hid hs
  have HN := Lib.hid hlen
  have HR := Lib.hid hnum
  clear hA hs hlen hnum
  go_enter Tryz.func15, Tryz.ntmps15
  go_wp2_with (first | (go_at_call 39; fail))
  go_at_call 39
  refine (HL.out _).mono ?_
  rintro e w1 ⟨rfl, hb1⟩
  go_wp2
  have hb2 : Below (w.alloc (.cells #[.int .i64 0, .int .i64 0, .string { data := #[] }] 28)).heap.size (w.alloc (.cells #[.int .i64 0, .int .i64 0, .string { data := #[] }] 28)) (w1.alloc (.cells #[] 2)) := hb1.alloc hb1.size _
  have HB2 := Lib.hid hb2
  have ho0 := Lib.hid (owns_empty2 w1)
  have hs1 : Hid ((w.alloc (.cells #[.int .i64 0, .int .i64 0, .string { data := #[] }] 28)).heap.size ≤ w1.heap.size) := Lib.hid hb1.size
  have hs2 : Hid (w1.heap.size ≤ (w1.alloc (.cells #[] 2)).heap.size) := Lib.hid (by simp)
  clear hb1 hb2
  generalize w1.alloc (.cells #[] 2) = w2 at *
  go_loopw [7, 39] (fun vl vi wr => ∃ (k : Nat) (acc : List Int), vi = .int .i64 k ∧ k ≤ 1 ∧ Hid (acc.length = k) ∧ Hid (wr.ownsRow w1.heap.size 2 1 vl acc.length (acc.map (Value.int .i64))) ∧ Hid (nums (vs.drop k) acc = ([a], 0)) ∧ Hid (Below (w.alloc (.cells #[.int .i64 0, .int .i64 0, .string { data := #[] }] 28)).heap.size (w.alloc (.cells #[.int .i64 0, .int .i64 0, .string { data := #[] }] 28)) wr) ∧ Hid (w1.heap.size ≤ wr.heap.size)) (fun _ vi _ => 1 - (RowKit.intOf vi).toNat)
  case atStart => exact ⟨0, [], rfl, by omega, Lib.hid rfl, ho0, Lib.hid (by rw [List.drop_zero]; exact HR.out), HB2, hs2⟩
  case round =>
    obtain ⟨k, acc, rfl, hk, hlen, hown, hinv, hbl, hwz⟩ := hrel
    clear ho0 HB2 hs2
    by_cases hkn : k < 1
    · obtain ⟨u, hu⟩ : ∃ u, vs[k]? = some u := ⟨vs[k]'(by rw [HN.out]; exact hkn), List.getElem?_eq_getElem _⟩
      obtain ⟨ku, nu, su, eu⟩ := tell_form u
      have hA2 := (HA.out.below (w' := (w.alloc (.cells #[.int .i64 0, .int .i64 0, .string { data := #[] }] 28))) ((Below.refl _ _).alloc (Nat.le_refl _) _)).below hbl.out
      obtain ⟨hc0, hc1, hc2⟩ := hA2.2 k u ku nu su hu eu
      obtain ⟨nn, f, hf⟩ : ∃ nn f, u.asNum = (nn, f) := ⟨_, _, rfl⟩
      have hdr : vs.drop k = u :: vs.drop (k + 1) := by
        obtain ⟨e1, e2⟩ := List.getElem?_eq_some_iff.1 hu
        rw [List.drop_eq_getElem_cons e1, e2]
      have hi2 := hinv.out
      rw [hdr, nums_cons _ _ _ _ _ hf] at hi2
      have hf0 : f = 0 := by
        by_cases h : f = 0
        · exact h
        · rw [if_neg h] at hi2; simp at hi2
      subst hf0
      rw [if_pos rfl] at hi2
      have HAN := Lib.hid fun w => refAsNumber_any u nn 0 w (short_at HS.out hu) hf
      rw [eu] at HAN
      have HN2 := Lib.hid hi2
      have hkz : k ≤ 1000 := by omega
      clear hi2 hdr hf hu eu hinv hA2
      go_wp2_with (first | (go_at_call 62; fail))
      go_at_call 62
      refine (HAN.out _).mono ?_
      rintro e w3 ⟨rfl, hb3⟩
      have hr3 : Below wr.heap.size wr w3 := ((Below.refl _ _).alloc (Nat.le_refl _) _).trans (hb3.mono (by simp))
      have hb03 := hbl.out.trans (hr3.mono hbl.out.size)
      have hown3 := Lib.hid (owns_below hown.out hr3)
      have hsz3 := hr3.size
      have HL2 := Lib.hid (show acc.length + 1 ≤ 2000 by have := hlen.out; omega)
      have hwz3 : Hid (w1.heap.size ≤ w3.heap.size) := Lib.hid (Nat.le_trans hwz.out hsz3)
      clear hr3 hb3 hc0 hc1 hc2 hown hbl HAN
      go_wp2_with (first | (at_builtin; refine wpList_append_own _ rfl _ _ 102 rfl w1.heap.size 2 i0 (.int .i64 0) 1 8 Tryz.underlying102 hi hz0 hz1 hz2 rfl (by decide) _ _ _ rfl (hown3.out.alloc _) ⟨w3.heap.size, 0, none⟩ 1 1 [.int .i64 nn] rfl rfl ?c1 ?c2 ?c3 ?c4 ?c5 ?_))
      case c1 => exact news_one _ _ _
      case c2 => intro u hu; simp at hu; subst hu; rfl
      case c3 => have := HL2.out; unfold maxLen; omega
      case c4 => have := HL2.out; omega
      case c5 => have := hwz3.out; simp; omega
      · intro v' w4 hown4 hgrow4 _
        have hb04 := Lib.hid ((hb03.alloc hb03.size _).grown hgrow4 (by simp; have := hb03.size; simp at this; omega) (fun k hk => Nat.le_trans hs1.out (owns_row hown3.out k hk)))
        have HO := Lib.hid hown4
        have hwz4 : Hid (w1.heap.size ≤ w4.heap.size) := Lib.hid (by have := hgrow4.size; have := hwz3.out; simp at *; omega)
        clear hown4 hgrow4 hb03 hown3
        go_wp2
        go_roundw
        case rel => exact ⟨k + 1, acc ++ [nn], rfl, by omega, Lib.hid (by simp [hlen.out]), Lib.hid (by simpa using HO.out), HN2, hb04, hwz4⟩
        case measure => simp [RowKit.intOf]; omega
    · obtain rfl : k = 1 := by omega
      have hac : acc = [a] := by
        have := hinv.out
        rw [List.drop_of_length_le (by rw [HN.out]; exact Nat.le_refl _)] at this
        simpa [nums] using this
      subst hac
      have ho := hown.out
      obtain ⟨g1, cap1, rfl, _, _⟩ := ho.form (by simp)
      have hc0 : wr.cell? ⟨g1, 0, none⟩ = some (.int .i64 a) := ho.cellAt 0 (by simp)
      have hbw := hbl.out
      clear ho hown hinv hbl hwz hlen HR HN HS HA hkn
      simp only [List.length_cons, List.length_nil, Nat.reduceAdd]
      go_wp2_with (first | (go_at_call 64; refine (HX.out _).mono ?_; rintro e w' ⟨rfl, rfl⟩) | (go_at_call 63; fail))
      go_at_call 63
      refine (HC.out _).mono ?_
      rintro e w3 ⟨rfl, hbx⟩
      have hb3 := hbw.trans (hbx.mono hbw.size)
      clear hbx hbw
      obtain ⟨hc', hf', hlt', hb0⟩ := out_ready hb3
      go_wp2
      obtain ⟨e0, e1, e2⟩ := set_three w3 w.heap.size (.int .i64 ya) (.int .i64 yb) (.string yc) (hc' 0) (hc' 1) (hc' 2)
      have hbf := set_below hb0 (.int .i64 ya) (.int .i64 yb) (.string yc)
      generalize (((w3.setCell ⟨w.heap.size, 0, none⟩ (.int .i64 ya)).setCell ⟨w.heap.size, 1, none⟩ (.int .i64 yb)).setCell ⟨w.heap.size, 2, none⟩ (.string yc)) = wf at *
      refine bodyPost_ret (v := .agg #[.int .i64 ya, .int .i64 yb, .string yc]) (by simp [results, Tryz.results15, go_sem, e0, e1, e2]) rfl ?_
      exact ⟨rfl, hbf⟩
set_option maxHeartbeats 3200000 in
set_option maxRecDepth 100000 in
theorem refCall_SIGN1n (vs : List V) (g cap : Nat) (a : Int) (v : V) (w : World) (hA : TellsAt w g vs) (hs : ∀ v ∈ vs, v.short 4294967) (hlen : vs.length = 1) (hnum : nums vs [] = ([a], 0)) (_ha : -999999999999999999 ≤ a ∧ a ≤ 999999999999999999) (hsg : a < 0) (hv : V.num (-10000) = v) :
    Calls Tryz.prog 15 #[.string ⟨#[83, 73, 71, 78]⟩, .slice (some ⟨g, 0, none⟩) 1 cap] w fun e w' => e = .returned v.tell ∧ Below w.heap.size w w' := by
  obtain ⟨i0, hi, hz0, hz1, hz2⟩ := info_parts info2i
  obtain ⟨ya, yb, yc, ev⟩ := tell_form v
  have HL : Hid (∀ w, Calls Tryz.prog 39 #[.string ⟨#[83, 73, 71, 78]⟩] w fun e w' => e = .returned (.tuple #[.int .i64 1, .int .i64 1]) ∧ Below w.heap.size w w') := Lib.hid fun w => refLimits_any ⟨#[83, 73, 71, 78]⟩ 1 1 w (by decide +kernel)
  have HC : Hid (∀ w, Calls Tryz.prog 63 #[.int .i64 (-10000)] w fun e w' => e = .returned (.agg #[.int .i64 ya, .int .i64 yb, .string yc]) ∧ Below w.heap.size w w') := Lib.hid fun w => by
    have := refNum_any (-10000) w
    rw [hv, ev] at this
    exact this
  rw [ev]
  clear hv ev
  have HA := Lib.hid hA
  have HS := Lib.hid hs
  have HN := Lib.hid hlen
  have HR := Lib.hid hnum
  clear hA hs hlen hnum
  go_enter Tryz.func15, Tryz.ntmps15
  go_wp2_with (first | (go_at_call 39; fail))
  go_at_call 39
  refine (HL.out _).mono ?_
  rintro e w1 ⟨rfl, hb1⟩
  go_wp2
  have hb2 : Below (w.alloc (.cells #[.int .i64 0, .int .i64 0, .string { data := #[] }] 28)).heap.size (w.alloc (.cells #[.int .i64 0, .int .i64 0, .string { data := #[] }] 28)) (w1.alloc (.cells #[] 2)) := hb1.alloc hb1.size _
  have HB2 := Lib.hid hb2
  have ho0 := Lib.hid (owns_empty2 w1)
  have hs1 : Hid ((w.alloc (.cells #[.int .i64 0, .int .i64 0, .string { data := #[] }] 28)).heap.size ≤ w1.heap.size) := Lib.hid hb1.size
  have hs2 : Hid (w1.heap.size ≤ (w1.alloc (.cells #[] 2)).heap.size) := Lib.hid (by simp)
  clear hb1 hb2
  generalize w1.alloc (.cells #[] 2) = w2 at *
  go_loopw [7, 39] (fun vl vi wr => ∃ (k : Nat) (acc : List Int), vi = .int .i64 k ∧ k ≤ 1 ∧ Hid (acc.length = k) ∧ Hid (wr.ownsRow w1.heap.size 2 1 vl acc.length (acc.map (Value.int .i64))) ∧ Hid (nums (vs.drop k) acc = ([a], 0)) ∧ Hid (Below (w.alloc (.cells #[.int .i64 0, .int .i64 0, .string { data := #[] }] 28)).heap.size (w.alloc (.cells #[.int .i64 0, .int .i64 0, .string { data := #[] }] 28)) wr) ∧ Hid (w1.heap.size ≤ wr.heap.size)) (fun _ vi _ => 1 - (RowKit.intOf vi).toNat)
  case atStart => exact ⟨0, [], rfl, by omega, Lib.hid rfl, ho0, Lib.hid (by rw [List.drop_zero]; exact HR.out), HB2, hs2⟩
  case round =>
    obtain ⟨k, acc, rfl, hk, hlen, hown, hinv, hbl, hwz⟩ := hrel
    clear ho0 HB2 hs2
    by_cases hkn : k < 1
    · obtain ⟨u, hu⟩ : ∃ u, vs[k]? = some u := ⟨vs[k]'(by rw [HN.out]; exact hkn), List.getElem?_eq_getElem _⟩
      obtain ⟨ku, nu, su, eu⟩ := tell_form u
      have hA2 := (HA.out.below (w' := (w.alloc (.cells #[.int .i64 0, .int .i64 0, .string { data := #[] }] 28))) ((Below.refl _ _).alloc (Nat.le_refl _) _)).below hbl.out
      obtain ⟨hc0, hc1, hc2⟩ := hA2.2 k u ku nu su hu eu
      obtain ⟨nn, f, hf⟩ : ∃ nn f, u.asNum = (nn, f) := ⟨_, _, rfl⟩
      have hdr : vs.drop k = u :: vs.drop (k + 1) := by
        obtain ⟨e1, e2⟩ := List.getElem?_eq_some_iff.1 hu
        rw [List.drop_eq_getElem_cons e1, e2]
      have hi2 := hinv.out
      rw [hdr, nums_cons _ _ _ _ _ hf] at hi2
      have hf0 : f = 0 := by
        by_cases h : f = 0
        · exact h
        · rw [if_neg h] at hi2; simp at hi2
      subst hf0
      rw [if_pos rfl] at hi2
      have HAN := Lib.hid fun w => refAsNumber_any u nn 0 w (short_at HS.out hu) hf
      rw [eu] at HAN
      have HN2 := Lib.hid hi2
      have hkz : k ≤ 1000 := by omega
      clear hi2 hdr hf hu eu hinv hA2
      go_wp2_with (first | (go_at_call 62; fail))
      go_at_call 62
      refine (HAN.out _).mono ?_
      rintro e w3 ⟨rfl, hb3⟩
      have hr3 : Below wr.heap.size wr w3 := ((Below.refl _ _).alloc (Nat.le_refl _) _).trans (hb3.mono (by simp))
      have hb03 := hbl.out.trans (hr3.mono hbl.out.size)
      have hown3 := Lib.hid (owns_below hown.out hr3)
      have hsz3 := hr3.size
      have HL2 := Lib.hid (show acc.length + 1 ≤ 2000 by have := hlen.out; omega)
      have hwz3 : Hid (w1.heap.size ≤ w3.heap.size) := Lib.hid (Nat.le_trans hwz.out hsz3)
      clear hr3 hb3 hc0 hc1 hc2 hown hbl HAN
      go_wp2_with (first | (at_builtin; refine wpList_append_own _ rfl _ _ 102 rfl w1.heap.size 2 i0 (.int .i64 0) 1 8 Tryz.underlying102 hi hz0 hz1 hz2 rfl (by decide) _ _ _ rfl (hown3.out.alloc _) ⟨w3.heap.size, 0, none⟩ 1 1 [.int .i64 nn] rfl rfl ?c1 ?c2 ?c3 ?c4 ?c5 ?_))
      case c1 => exact news_one _ _ _
      case c2 => intro u hu; simp at hu; subst hu; rfl
      case c3 => have := HL2.out; unfold maxLen; omega
      case c4 => have := HL2.out; omega
      case c5 => have := hwz3.out; simp; omega
      · intro v' w4 hown4 hgrow4 _
        have hb04 := Lib.hid ((hb03.alloc hb03.size _).grown hgrow4 (by simp; have := hb03.size; simp at this; omega) (fun k hk => Nat.le_trans hs1.out (owns_row hown3.out k hk)))
        have HO := Lib.hid hown4
        have hwz4 : Hid (w1.heap.size ≤ w4.heap.size) := Lib.hid (by have := hgrow4.size; have := hwz3.out; simp at *; omega)
        clear hown4 hgrow4 hb03 hown3
        go_wp2
        go_roundw
        case rel => exact ⟨k + 1, acc ++ [nn], rfl, by omega, Lib.hid (by simp [hlen.out]), Lib.hid (by simpa using HO.out), HN2, hb04, hwz4⟩
        case measure => simp [RowKit.intOf]; omega
    · obtain rfl : k = 1 := by omega
      have hac : acc = [a] := by
        have := hinv.out
        rw [List.drop_of_length_le (by rw [HN.out]; exact Nat.le_refl _)] at this
        simpa [nums] using this
      subst hac
      have ho := hown.out
      obtain ⟨g1, cap1, rfl, _, _⟩ := ho.form (by simp)
      have hc0 : wr.cell? ⟨g1, 0, none⟩ = some (.int .i64 a) := ho.cellAt 0 (by simp)
      have hbw := hbl.out
      clear ho hown hinv hbl hwz hlen HR HN HS HA hkn
      simp only [List.length_cons, List.length_nil, Nat.reduceAdd]
      go_wp2_with (first | (go_at_call 63; fail))
      go_at_call 63
      refine (HC.out _).mono ?_
      rintro e w3 ⟨rfl, hbx⟩
      have hb3 := hbw.trans (hbx.mono hbw.size)
      clear hbx hbw
      obtain ⟨hc', hf', hlt', hb0⟩ := out_ready hb3
      go_wp2
      obtain ⟨e0, e1, e2⟩ := set_three w3 w.heap.size (.int .i64 ya) (.int .i64 yb) (.string yc) (hc' 0) (hc' 1) (hc' 2)
      have hbf := set_below hb0 (.int .i64 ya) (.int .i64 yb) (.string yc)
      generalize (((w3.setCell ⟨w.heap.size, 0, none⟩ (.int .i64 ya)).setCell ⟨w.heap.size, 1, none⟩ (.int .i64 yb)).setCell ⟨w.heap.size, 2, none⟩ (.string yc)) = wf at *
      refine bodyPost_ret (v := .agg #[.int .i64 ya, .int .i64 yb, .string yc]) (by simp [results, Tryz.results15, go_sem, e0, e1, e2]) rfl ?_
      exact ⟨rfl, hbf⟩
set_option maxHeartbeats 3200000 in
set_option maxRecDepth 100000 in
theorem refCall_SIGN1p (vs : List V) (g cap : Nat) (a : Int) (v : V) (w : World) (hA : TellsAt w g vs) (hs : ∀ v ∈ vs, v.short 4294967) (hlen : vs.length = 1) (hnum : nums vs [] = ([a], 0)) (_ha : -999999999999999999 ≤ a ∧ a ≤ 999999999999999999) (hsg : 0 < a) (hv : V.num (10000) = v) :
    Calls Tryz.prog 15 #[.string ⟨#[83, 73, 71, 78]⟩, .slice (some ⟨g, 0, none⟩) 1 cap] w fun e w' => e = .returned v.tell ∧ Below w.heap.size w w' := by
  obtain ⟨i0, hi, hz0, hz1, hz2⟩ := info_parts info2i
  obtain ⟨ya, yb, yc, ev⟩ := tell_form v
  have HL : Hid (∀ w, Calls Tryz.prog 39 #[.string ⟨#[83, 73, 71, 78]⟩] w fun e w' => e = .returned (.tuple #[.int .i64 1, .int .i64 1]) ∧ Below w.heap.size w w') := Lib.hid fun w => refLimits_any ⟨#[83, 73, 71, 78]⟩ 1 1 w (by decide +kernel)
  have HC : Hid (∀ w, Calls Tryz.prog 63 #[.int .i64 (10000)] w fun e w' => e = .returned (.agg #[.int .i64 ya, .int .i64 yb, .string yc]) ∧ Below w.heap.size w w') := Lib.hid fun w => by
    have := refNum_any (10000) w
    rw [hv, ev] at this
    exact this
  rw [ev]
  clear hv ev
  have hs1 : ¬ a < 0 := by omega
  have HA := Lib.hid hA
  have HS := Lib.hid hs
  have HN := Lib.hid hlen
  have HR := Lib.hid hnum
  clear hA hs hlen hnum
  go_enter Tryz.func15, Tryz.ntmps15
  go_wp2_with (first | (go_at_call 39; fail))
  go_at_call 39
  refine (HL.out _).mono ?_
  rintro e w1 ⟨rfl, hb1⟩
  go_wp2
  have hb2 : Below (w.alloc (.cells #[.int .i64 0, .int .i64 0, .string { data := #[] }] 28)).heap.size (w.alloc (.cells #[.int .i64 0, .int .i64 0, .string { data := #[] }] 28)) (w1.alloc (.cells #[] 2)) := hb1.alloc hb1.size _
  have HB2 := Lib.hid hb2
  have ho0 := Lib.hid (owns_empty2 w1)
  have hs1 : Hid ((w.alloc (.cells #[.int .i64 0, .int .i64 0, .string { data := #[] }] 28)).heap.size ≤ w1.heap.size) := Lib.hid hb1.size
  have hs2 : Hid (w1.heap.size ≤ (w1.alloc (.cells #[] 2)).heap.size) := Lib.hid (by simp)
  clear hb1 hb2
  generalize w1.alloc (.cells #[] 2) = w2 at *
  go_loopw [7, 39] (fun vl vi wr => ∃ (k : Nat) (acc : List Int), vi = .int .i64 k ∧ k ≤ 1 ∧ Hid (acc.length = k) ∧ Hid (wr.ownsRow w1.heap.size 2 1 vl acc.length (acc.map (Value.int .i64))) ∧ Hid (nums (vs.drop k) acc = ([a], 0)) ∧ Hid (Below (w.alloc (.cells #[.int .i64 0, .int .i64 0, .string { data := #[] }] 28)).heap.size (w.alloc (.cells #[.int .i64 0, .int .i64 0, .string { data := #[] }] 28)) wr) ∧ Hid (w1.heap.size ≤ wr.heap.size)) (fun _ vi _ => 1 - (RowKit.intOf vi).toNat)
  case atStart => exact ⟨0, [], rfl, by omega, Lib.hid rfl, ho0, Lib.hid (by rw [List.drop_zero]; exact HR.out), HB2, hs2⟩
  case round =>
    obtain ⟨k, acc, rfl, hk, hlen, hown, hinv, hbl, hwz⟩ := hrel
    clear ho0 HB2 hs2
    by_cases hkn : k < 1
    · obtain ⟨u, hu⟩ : ∃ u, vs[k]? = some u := ⟨vs[k]'(by rw [HN.out]; exact hkn), List.getElem?_eq_getElem _⟩
      obtain ⟨ku, nu, su, eu⟩ := tell_form u
      have hA2 := (HA.out.below (w' := (w.alloc (.cells #[.int .i64 0, .int .i64 0, .string { data := #[] }] 28))) ((Below.refl _ _).alloc (Nat.le_refl _) _)).below hbl.out
      obtain ⟨hc0, hc1, hc2⟩ := hA2.2 k u ku nu su hu eu
      obtain ⟨nn, f, hf⟩ : ∃ nn f, u.asNum = (nn, f) := ⟨_, _, rfl⟩
      have hdr : vs.drop k = u :: vs.drop (k + 1) := by
        obtain ⟨e1, e2⟩ := List.getElem?_eq_some_iff.1 hu
        rw [List.drop_eq_getElem_cons e1, e2]
      have hi2 := hinv.out
      rw [hdr, nums_cons _ _ _ _ _ hf] at hi2
      have hf0 : f = 0 := by
        by_cases h : f = 0
        · exact h
        · rw [if_neg h] at hi2; simp at hi2
      subst hf0
      rw [if_pos rfl] at hi2
      have HAN := Lib.hid fun w => refAsNumber_any u nn 0 w (short_at HS.out hu) hf
      rw [eu] at HAN
      have HN2 := Lib.hid hi2
      have hkz : k ≤ 1000 := by omega
      clear hi2 hdr hf hu eu hinv hA2
      go_wp2_with (first | (go_at_call 62; fail))
      go_at_call 62
      refine (HAN.out _).mono ?_
      rintro e w3 ⟨rfl, hb3⟩
      have hr3 : Below wr.heap.size wr w3 := ((Below.refl _ _).alloc (Nat.le_refl _) _).trans (hb3.mono (by simp))
      have hb03 := hbl.out.trans (hr3.mono hbl.out.size)
      have hown3 := Lib.hid (owns_below hown.out hr3)
      have hsz3 := hr3.size
      have HL2 := Lib.hid (show acc.length + 1 ≤ 2000 by have := hlen.out; omega)
      have hwz3 : Hid (w1.heap.size ≤ w3.heap.size) := Lib.hid (Nat.le_trans hwz.out hsz3)
      clear hr3 hb3 hc0 hc1 hc2 hown hbl HAN
      go_wp2_with (first | (at_builtin; refine wpList_append_own _ rfl _ _ 102 rfl w1.heap.size 2 i0 (.int .i64 0) 1 8 Tryz.underlying102 hi hz0 hz1 hz2 rfl (by decide) _ _ _ rfl (hown3.out.alloc _) ⟨w3.heap.size, 0, none⟩ 1 1 [.int .i64 nn] rfl rfl ?c1 ?c2 ?c3 ?c4 ?c5 ?_))
      case c1 => exact news_one _ _ _
      case c2 => intro u hu; simp at hu; subst hu; rfl
      case c3 => have := HL2.out; unfold maxLen; omega
      case c4 => have := HL2.out; omega
      case c5 => have := hwz3.out; simp; omega
      · intro v' w4 hown4 hgrow4 _
        have hb04 := Lib.hid ((hb03.alloc hb03.size _).grown hgrow4 (by simp; have := hb03.size; simp at this; omega) (fun k hk => Nat.le_trans hs1.out (owns_row hown3.out k hk)))
        have HO := Lib.hid hown4
        have hwz4 : Hid (w1.heap.size ≤ w4.heap.size) := Lib.hid (by have := hgrow4.size; have := hwz3.out; simp at *; omega)
        clear hown4 hgrow4 hb03 hown3
        go_wp2
        go_roundw
        case rel => exact ⟨k + 1, acc ++ [nn], rfl, by omega, Lib.hid (by simp [hlen.out]), Lib.hid (by simpa using HO.out), HN2, hb04, hwz4⟩
        case measure => simp [RowKit.intOf]; omega
    · obtain rfl : k = 1 := by omega
      have hac : acc = [a] := by
        have := hinv.out
        rw [List.drop_of_length_le (by rw [HN.out]; exact Nat.le_refl _)] at this
        simpa [nums] using this
      subst hac
      have ho := hown.out
      obtain ⟨g1, cap1, rfl, _, _⟩ := ho.form (by simp)
      have hc0 : wr.cell? ⟨g1, 0, none⟩ = some (.int .i64 a) := ho.cellAt 0 (by simp)
      have hbw := hbl.out
      clear ho hown hinv hbl hwz hlen HR HN HS HA hkn
      simp only [List.length_cons, List.length_nil, Nat.reduceAdd]
      go_wp2_with (first | (go_at_call 63; fail))
      go_at_call 63
      refine (HC.out _).mono ?_
      rintro e w3 ⟨rfl, hbx⟩
      have hb3 := hbw.trans (hbx.mono hbw.size)
      clear hbx hbw
      obtain ⟨hc', hf', hlt', hb0⟩ := out_ready hb3
      go_wp2
      obtain ⟨e0, e1, e2⟩ := set_three w3 w.heap.size (.int .i64 ya) (.int .i64 yb) (.string yc) (hc' 0) (hc' 1) (hc' 2)
      have hbf := set_below hb0 (.int .i64 ya) (.int .i64 yb) (.string yc)
      generalize (((w3.setCell ⟨w.heap.size, 0, none⟩ (.int .i64 ya)).setCell ⟨w.heap.size, 1, none⟩ (.int .i64 yb)).setCell ⟨w.heap.size, 2, none⟩ (.string yc)) = wf at *
      refine bodyPost_ret (v := .agg #[.int .i64 ya, .int .i64 yb, .string yc]) (by simp [results, Tryz.results15, go_sem, e0, e1, e2]) rfl ?_
      exact ⟨rfl, hbf⟩
set_option maxHeartbeats 3200000 in
set_option maxRecDepth 100000 in
theorem refCall_SIGN1z (vs : List V) (g cap : Nat) (a : Int) (v : V) (w : World) (hA : TellsAt w g vs) (hs : ∀ v ∈ vs, v.short 4294967) (hlen : vs.length = 1) (hnum : nums vs [] = ([a], 0)) (_ha : -999999999999999999 ≤ a ∧ a ≤ 999999999999999999) (hsg : a = 0) (hv : V.num (0) = v) :
    Calls Tryz.prog 15 #[.string ⟨#[83, 73, 71, 78]⟩, .slice (some ⟨g, 0, none⟩) 1 cap] w fun e w' => e = .returned v.tell ∧ Below w.heap.size w w' := by
  obtain ⟨i0, hi, hz0, hz1, hz2⟩ := info_parts info2i
  obtain ⟨ya, yb, yc, ev⟩ := tell_form v
  have HL : Hid (∀ w, Calls Tryz.prog 39 #[.string ⟨#[83, 73, 71, 78]⟩] w fun e w' => e = .returned (.tuple #[.int .i64 1, .int .i64 1]) ∧ Below w.heap.size w w') := Lib.hid fun w => refLimits_any ⟨#[83, 73, 71, 78]⟩ 1 1 w (by decide +kernel)
  have HC : Hid (∀ w, Calls Tryz.prog 63 #[.int .i64 (0)] w fun e w' => e = .returned (.agg #[.int .i64 ya, .int .i64 yb, .string yc]) ∧ Below w.heap.size w w') := Lib.hid fun w => by
    have := refNum_any (0) w
    rw [hv, ev] at this
    exact this
  rw [ev]
  clear hv ev
  have hs1 : ¬ a < 0 := by omega
  have hs3 : ¬ 0 < a := by omega
  clear hsg
  have HA := Lib.hid hA
  have HS := Lib.hid hs
  have HN := Lib.hid hlen
  have HR := Lib.hid hnum
  clear hA hs hlen hnum
  go_enter Tryz.func15, Tryz.ntmps15
  go_wp2_with (first | (go_at_call 39; fail))
  go_at_call 39
  refine (HL.out _).mono ?_
  rintro e w1 ⟨rfl, hb1⟩
  go_wp2
  have hb2 : Below (w.alloc (.cells #[.int .i64 0, .int .i64 0, .string { data := #[] }] 28)).heap.size (w.alloc (.cells #[.int .i64 0, .int .i64 0, .string { data := #[] }] 28)) (w1.alloc (.cells #[] 2)) := hb1.alloc hb1.size _
  have HB2 := Lib.hid hb2
  have ho0 := Lib.hid (owns_empty2 w1)
  have hs1 : Hid ((w.alloc (.cells #[.int .i64 0, .int .i64 0, .string { data := #[] }] 28)).heap.size ≤ w1.heap.size) := Lib.hid hb1.size
  have hs2 : Hid (w1.heap.size ≤ (w1.alloc (.cells #[] 2)).heap.size) := Lib.hid (by simp)
  clear hb1 hb2
  generalize w1.alloc (.cells #[] 2) = w2 at *
  go_loopw [7, 39] (fun vl vi wr => ∃ (k : Nat) (acc : List Int), vi = .int .i64 k ∧ k ≤ 1 ∧ Hid (acc.length = k) ∧ Hid (wr.ownsRow w1.heap.size 2 1 vl acc.length (acc.map (Value.int .i64))) ∧ Hid (nums (vs.drop k) acc = ([a], 0)) ∧ Hid (Below (w.alloc (.cells #[.int .i64 0, .int .i64 0, .string { data := #[] }] 28)).heap.size (w.alloc (.cells #[.int .i64 0, .int .i64 0, .string { data := #[] }] 28)) wr) ∧ Hid (w1.heap.size ≤ wr.heap.size)) (fun _ vi _ => 1 - (RowKit.intOf vi).toNat)
  case atStart => exact ⟨0, [], rfl, by omega, Lib.hid rfl, ho0, Lib.hid (by rw [List.drop_zero]; exact HR.out), HB2, hs2⟩
  case round =>
    obtain ⟨k, acc, rfl, hk, hlen, hown, hinv, hbl, hwz⟩ := hrel
    clear ho0 HB2 hs2
    by_cases hkn : k < 1
    · obtain ⟨u, hu⟩ : ∃ u, vs[k]? = some u := ⟨vs[k]'(by rw [HN.out]; exact hkn), List.getElem?_eq_getElem _⟩
      obtain ⟨ku, nu, su, eu⟩ := tell_form u
      have hA2 := (HA.out.below (w' := (w.alloc (.cells #[.int .i64 0, .int .i64 0, .string { data := #[] }] 28))) ((Below.refl _ _).alloc (Nat.le_refl _) _)).below hbl.out
      obtain ⟨hc0, hc1, hc2⟩ := hA2.2 k u ku nu su hu eu
      obtain ⟨nn, f, hf⟩ : ∃ nn f, u.asNum = (nn, f) := ⟨_, _, rfl⟩
      have hdr : vs.drop k = u :: vs.drop (k + 1) := by
        obtain ⟨e1, e2⟩ := List.getElem?_eq_some_iff.1 hu
        rw [List.drop_eq_getElem_cons e1, e2]
      have hi2 := hinv.out
      rw [hdr, nums_cons _ _ _ _ _ hf] at hi2
      have hf0 : f = 0 := by
        by_cases h : f = 0
        · exact h
        · rw [if_neg h] at hi2; simp at hi2
      subst hf0
      rw [if_pos rfl] at hi2
      have HAN := Lib.hid fun w => refAsNumber_any u nn 0 w (short_at HS.out hu) hf
      rw [eu] at HAN
      have HN2 := Lib.hid hi2
      have hkz : k ≤ 1000 := by omega
      clear hi2 hdr hf hu eu hinv hA2
      go_wp2_with (first | (go_at_call 62; fail))
      go_at_call 62
      refine (HAN.out _).mono ?_
      rintro e w3 ⟨rfl, hb3⟩
      have hr3 : Below wr.heap.size wr w3 := ((Below.refl _ _).alloc (Nat.le_refl _) _).trans (hb3.mono (by simp))
      have hb03 := hbl.out.trans (hr3.mono hbl.out.size)
      have hown3 := Lib.hid (owns_below hown.out hr3)
      have hsz3 := hr3.size
      have HL2 := Lib.hid (show acc.length + 1 ≤ 2000 by have := hlen.out; omega)
      have hwz3 : Hid (w1.heap.size ≤ w3.heap.size) := Lib.hid (Nat.le_trans hwz.out hsz3)
      clear hr3 hb3 hc0 hc1 hc2 hown hbl HAN
      go_wp2_with (first | (at_builtin; refine wpList_append_own _ rfl _ _ 102 rfl w1.heap.size 2 i0 (.int .i64 0) 1 8 Tryz.underlying102 hi hz0 hz1 hz2 rfl (by decide) _ _ _ rfl (hown3.out.alloc _) ⟨w3.heap.size, 0, none⟩ 1 1 [.int .i64 nn] rfl rfl ?c1 ?c2 ?c3 ?c4 ?c5 ?_))
      case c1 => exact news_one _ _ _
      case c2 => intro u hu; simp at hu; subst hu; rfl
      case c3 => have := HL2.out; unfold maxLen; omega
      case c4 => have := HL2.out; omega
      case c5 => have := hwz3.out; simp; omega
      · intro v' w4 hown4 hgrow4 _
        have hb04 := Lib.hid ((hb03.alloc hb03.size _).grown hgrow4 (by simp; have := hb03.size; simp at this; omega) (fun k hk => Nat.le_trans hs1.out (owns_row hown3.out k hk)))
        have HO := Lib.hid hown4
        have hwz4 : Hid (w1.heap.size ≤ w4.heap.size) := Lib.hid (by have := hgrow4.size; have := hwz3.out; simp at *; omega)
        clear hown4 hgrow4 hb03 hown3
        go_wp2
        go_roundw
        case rel => exact ⟨k + 1, acc ++ [nn], rfl, by omega, Lib.hid (by simp [hlen.out]), Lib.hid (by simpa using HO.out), HN2, hb04, hwz4⟩
        case measure => simp [RowKit.intOf]; omega
    · obtain rfl : k = 1 := by omega
      have hac : acc = [a] := by
        have := hinv.out
        rw [List.drop_of_length_le (by rw [HN.out]; exact Nat.le_refl _)] at this
        simpa [nums] using this
      subst hac
      have ho := hown.out
      obtain ⟨g1, cap1, rfl, _, _⟩ := ho.form (by simp)
      have hc0 : wr.cell? ⟨g1, 0, none⟩ = some (.int .i64 a) := ho.cellAt 0 (by simp)
      have hbw := hbl.out
      clear ho hown hinv hbl hwz hlen HR HN HS HA hkn
      simp only [List.length_cons, List.length_nil, Nat.reduceAdd]
      go_wp2_with (first | (go_at_call 63; fail))
      go_at_call 63
      refine (HC.out _).mono ?_
      rintro e w3 ⟨rfl, hbx⟩
      have hb3 := hbw.trans (hbx.mono hbw.size)
      clear hbx hbw
      obtain ⟨hc', hf', hlt', hb0⟩ := out_ready hb3
      go_wp2
      obtain ⟨e0, e1, e2⟩ := set_three w3 w.heap.size (.int .i64 ya) (.int .i64 yb) (.string yc) (hc' 0) (hc' 1) (hc' 2)
      have hbf := set_below hb0 (.int .i64 ya) (.int .i64 yb) (.string yc)
      generalize (((w3.setCell ⟨w.heap.size, 0, none⟩ (.int .i64 ya)).setCell ⟨w.heap.size, 1, none⟩ (.int .i64 yb)).setCell ⟨w.heap.size, 2, none⟩ (.string yc)) = wf at *
      refine bodyPost_ret (v := .agg #[.int .i64 ya, .int .i64 yb, .string yc]) (by simp [results, Tryz.results15, go_sem, e0, e1, e2]) rfl ?_
      exact ⟨rfl, hbf⟩
set_option maxHeartbeats 3200000 in
set_option maxRecDepth 100000 in
theorem refCall_INT1 (vs : List V) (g cap : Nat) (a : Int) (v : V) (w : World) (hA : TellsAt w g vs) (hs : ∀ v ∈ vs, v.short 4294967) (hlen : vs.length = 1) (hnum : nums vs [] = ([a], 0)) (ha : -999999999999999999 ≤ a ∧ a ≤ 999999999999999999) (hv : cnt (Tab.fit (a - a % 10000)) = v) :
    Calls Tryz.prog 15 #[.string ⟨#[73, 78, 84]⟩, .slice (some ⟨g, 0, none⟩) 1 cap] w fun e w' => e = .returned v.tell ∧ Below w.heap.size w w' := by
  obtain ⟨i0, hi, hz0, hz1, hz2⟩ := info_parts info2i
  obtain ⟨ya, yb, yc, ev⟩ := tell_form v
  have HL : Hid (∀ w, Calls Tryz.prog 39 #[.string ⟨#[73, 78, 84]⟩] w fun e w' => e = .returned (.tuple #[.int .i64 1, .int .i64 1]) ∧ Below w.heap.size w w') := Lib.hid fun w => refLimits_any ⟨#[73, 78, 84]⟩ 1 1 w (by decide +kernel)
  have HX : Hid (∀ w, Calls Tryz.prog 66 #[.int .i64 a, .int .i64 10000] w fun e w' => e = .returned (.tuple #[.int .i64 (Tab.fit (a - a % 10000)).1, .bool (Tab.fit (a - a % 10000)).2]) ∧ w = w') := Lib.hid fun w => refFloor_any a 10000 w ha (by omega)
  obtain ⟨m, ok, hm⟩ : ∃ m ok, Tab.fit (a - a % 10000) = (m, ok) := ⟨_, _, rfl⟩
  rw [hm] at hv
  have HC := Lib.hid fun w => refCounted_any m ok v w hv
  rw [ev] at HC ⊢
  clear hv ev
  rw [hm] at HX
  clear hm
  have HA := Lib.hid hA
  have HS := Lib.hid hs
  have HN := Lib.hid hlen
  have HR := Lib.hid hnum
  clear hA hs hlen hnum
  go_enter Tryz.func15, Tryz.ntmps15
  go_wp2_with (first | (go_at_call 39; fail))
  go_at_call 39
  refine (HL.out _).mono ?_
  rintro e w1 ⟨rfl, hb1⟩
  go_wp2
  have hb2 : Below (w.alloc (.cells #[.int .i64 0, .int .i64 0, .string { data := #[] }] 28)).heap.size (w.alloc (.cells #[.int .i64 0, .int .i64 0, .string { data := #[] }] 28)) (w1.alloc (.cells #[] 2)) := hb1.alloc hb1.size _
  have HB2 := Lib.hid hb2
  have ho0 := Lib.hid (owns_empty2 w1)
  have hs1 : Hid ((w.alloc (.cells #[.int .i64 0, .int .i64 0, .string { data := #[] }] 28)).heap.size ≤ w1.heap.size) := Lib.hid hb1.size
  have hs2 : Hid (w1.heap.size ≤ (w1.alloc (.cells #[] 2)).heap.size) := Lib.hid (by simp)
  clear hb1 hb2
  generalize w1.alloc (.cells #[] 2) = w2 at *
  go_loopw [7, 39] (fun vl vi wr => ∃ (k : Nat) (acc : List Int), vi = .int .i64 k ∧ k ≤ 1 ∧ Hid (acc.length = k) ∧ Hid (wr.ownsRow w1.heap.size 2 1 vl acc.length (acc.map (Value.int .i64))) ∧ Hid (nums (vs.drop k) acc = ([a], 0)) ∧ Hid (Below (w.alloc (.cells #[.int .i64 0, .int .i64 0, .string { data := #[] }] 28)).heap.size (w.alloc (.cells #[.int .i64 0, .int .i64 0, .string { data := #[] }] 28)) wr) ∧ Hid (w1.heap.size ≤ wr.heap.size)) (fun _ vi _ => 1 - (RowKit.intOf vi).toNat)
  case atStart => exact ⟨0, [], rfl, by omega, Lib.hid rfl, ho0, Lib.hid (by rw [List.drop_zero]; exact HR.out), HB2, hs2⟩
  case round =>
    obtain ⟨k, acc, rfl, hk, hlen, hown, hinv, hbl, hwz⟩ := hrel
    clear ho0 HB2 hs2
    by_cases hkn : k < 1
    · obtain ⟨u, hu⟩ : ∃ u, vs[k]? = some u := ⟨vs[k]'(by rw [HN.out]; exact hkn), List.getElem?_eq_getElem _⟩
      obtain ⟨ku, nu, su, eu⟩ := tell_form u
      have hA2 := (HA.out.below (w' := (w.alloc (.cells #[.int .i64 0, .int .i64 0, .string { data := #[] }] 28))) ((Below.refl _ _).alloc (Nat.le_refl _) _)).below hbl.out
      obtain ⟨hc0, hc1, hc2⟩ := hA2.2 k u ku nu su hu eu
      obtain ⟨nn, f, hf⟩ : ∃ nn f, u.asNum = (nn, f) := ⟨_, _, rfl⟩
      have hdr : vs.drop k = u :: vs.drop (k + 1) := by
        obtain ⟨e1, e2⟩ := List.getElem?_eq_some_iff.1 hu
        rw [List.drop_eq_getElem_cons e1, e2]
      have hi2 := hinv.out
      rw [hdr, nums_cons _ _ _ _ _ hf] at hi2
      have hf0 : f = 0 := by
        by_cases h : f = 0
        · exact h
        · rw [if_neg h] at hi2; simp at hi2
      subst hf0
      rw [if_pos rfl] at hi2
      have HAN := Lib.hid fun w => refAsNumber_any u nn 0 w (short_at HS.out hu) hf
      rw [eu] at HAN
      have HN2 := Lib.hid hi2
      have hkz : k ≤ 1000 := by omega
      clear hi2 hdr hf hu eu hinv hA2
      go_wp2_with (first | (go_at_call 62; fail))
      go_at_call 62
      refine (HAN.out _).mono ?_
      rintro e w3 ⟨rfl, hb3⟩
      have hr3 : Below wr.heap.size wr w3 := ((Below.refl _ _).alloc (Nat.le_refl _) _).trans (hb3.mono (by simp))
      have hb03 := hbl.out.trans (hr3.mono hbl.out.size)
      have hown3 := Lib.hid (owns_below hown.out hr3)
      have hsz3 := hr3.size
      have HL2 := Lib.hid (show acc.length + 1 ≤ 2000 by have := hlen.out; omega)
      have hwz3 : Hid (w1.heap.size ≤ w3.heap.size) := Lib.hid (Nat.le_trans hwz.out hsz3)
      clear hr3 hb3 hc0 hc1 hc2 hown hbl HAN
      go_wp2_with (first | (at_builtin; refine wpList_append_own _ rfl _ _ 102 rfl w1.heap.size 2 i0 (.int .i64 0) 1 8 Tryz.underlying102 hi hz0 hz1 hz2 rfl (by decide) _ _ _ rfl (hown3.out.alloc _) ⟨w3.heap.size, 0, none⟩ 1 1 [.int .i64 nn] rfl rfl ?c1 ?c2 ?c3 ?c4 ?c5 ?_))
      case c1 => exact news_one _ _ _
      case c2 => intro u hu; simp at hu; subst hu; rfl
      case c3 => have := HL2.out; unfold maxLen; omega
      case c4 => have := HL2.out; omega
      case c5 => have := hwz3.out; simp; omega
      · intro v' w4 hown4 hgrow4 _
        have hb04 := Lib.hid ((hb03.alloc hb03.size _).grown hgrow4 (by simp; have := hb03.size; simp at this; omega) (fun k hk => Nat.le_trans hs1.out (owns_row hown3.out k hk)))
        have HO := Lib.hid hown4
        have hwz4 : Hid (w1.heap.size ≤ w4.heap.size) := Lib.hid (by have := hgrow4.size; have := hwz3.out; simp at *; omega)
        clear hown4 hgrow4 hb03 hown3
        go_wp2
        go_roundw
        case rel => exact ⟨k + 1, acc ++ [nn], rfl, by omega, Lib.hid (by simp [hlen.out]), Lib.hid (by simpa using HO.out), HN2, hb04, hwz4⟩
        case measure => simp [RowKit.intOf]; omega
    · obtain rfl : k = 1 := by omega
      have hac : acc = [a] := by
        have := hinv.out
        rw [List.drop_of_length_le (by rw [HN.out]; exact Nat.le_refl _)] at this
        simpa [nums] using this
      subst hac
      have ho := hown.out
      obtain ⟨g1, cap1, rfl, _, _⟩ := ho.form (by simp)
      have hc0 : wr.cell? ⟨g1, 0, none⟩ = some (.int .i64 a) := ho.cellAt 0 (by simp)
      have hbw := hbl.out
      clear ho hown hinv hbl hwz hlen HR HN HS HA hkn
      simp only [List.length_cons, List.length_nil, Nat.reduceAdd]
      go_wp2_with (first | (go_at_call 66; refine (HX.out _).mono ?_; rintro e w' ⟨rfl, rfl⟩) | (go_at_call 65; fail))
      go_at_call 65
      refine (HC.out _).mono ?_
      rintro e w3 ⟨rfl, hbx⟩
      have hb3 := hbw.trans (hbx.mono hbw.size)
      clear hbx hbw
      obtain ⟨hc', hf', hlt', hb0⟩ := out_ready hb3
      go_wp2
      obtain ⟨e0, e1, e2⟩ := set_three w3 w.heap.size (.int .i64 ya) (.int .i64 yb) (.string yc) (hc' 0) (hc' 1) (hc' 2)
      have hbf := set_below hb0 (.int .i64 ya) (.int .i64 yb) (.string yc)
      generalize (((w3.setCell ⟨w.heap.size, 0, none⟩ (.int .i64 ya)).setCell ⟨w.heap.size, 1, none⟩ (.int .i64 yb)).setCell ⟨w.heap.size, 2, none⟩ (.string yc)) = wf at *
      refine bodyPost_ret (v := .agg #[.int .i64 ya, .int .i64 yb, .string yc]) (by simp [results, Tryz.results15, go_sem, e0, e1, e2]) rfl ?_
      exact ⟨rfl, hbf⟩
set_option maxHeartbeats 3200000 in
set_option maxRecDepth 100000 in
theorem refCall_SQRT1n (vs : List V) (g cap : Nat) (a : Int) (v : V) (w : World) (hA : TellsAt w g vs) (hs : ∀ v ∈ vs, v.short 4294967) (hlen : vs.length = 1) (hnum : nums vs [] = ([a], 0)) (_ha : -999999999999999999 ≤ a ∧ a ≤ 999999999999999999) (hsg : a < 0) (hv : V.fail 2 = v) :
    Calls Tryz.prog 15 #[.string ⟨#[83, 81, 82, 84]⟩, .slice (some ⟨g, 0, none⟩) 1 cap] w fun e w' => e = .returned v.tell ∧ Below w.heap.size w w' := by
  obtain ⟨i0, hi, hz0, hz1, hz2⟩ := info_parts info2i
  obtain ⟨ya, yb, yc, ev⟩ := tell_form v
  have HL : Hid (∀ w, Calls Tryz.prog 39 #[.string ⟨#[83, 81, 82, 84]⟩] w fun e w' => e = .returned (.tuple #[.int .i64 1, .int .i64 1]) ∧ Below w.heap.size w w') := Lib.hid fun w => refLimits_any ⟨#[83, 81, 82, 84]⟩ 1 1 w (by decide +kernel)
  have HC : Hid (∀ w, Calls Tryz.prog 61 #[.int .i64 2] w fun e w' => e = .returned (.agg #[.int .i64 ya, .int .i64 yb, .string yc]) ∧ Below w.heap.size w w') := Lib.hid fun w => by
    have := refFail_any 2 w
    rw [hv, ev] at this
    exact this
  rw [ev]
  clear hv ev
  have HA := Lib.hid hA
  have HS := Lib.hid hs
  have HN := Lib.hid hlen
  have HR := Lib.hid hnum
  clear hA hs hlen hnum
  go_enter Tryz.func15, Tryz.ntmps15
  go_wp2_with (first | (go_at_call 39; fail))
  go_at_call 39
  refine (HL.out _).mono ?_
  rintro e w1 ⟨rfl, hb1⟩
  go_wp2
  have hb2 : Below (w.alloc (.cells #[.int .i64 0, .int .i64 0, .string { data := #[] }] 28)).heap.size (w.alloc (.cells #[.int .i64 0, .int .i64 0, .string { data := #[] }] 28)) (w1.alloc (.cells #[] 2)) := hb1.alloc hb1.size _
  have HB2 := Lib.hid hb2
  have ho0 := Lib.hid (owns_empty2 w1)
  have hs1 : Hid ((w.alloc (.cells #[.int .i64 0, .int .i64 0, .string { data := #[] }] 28)).heap.size ≤ w1.heap.size) := Lib.hid hb1.size
  have hs2 : Hid (w1.heap.size ≤ (w1.alloc (.cells #[] 2)).heap.size) := Lib.hid (by simp)
  clear hb1 hb2
  generalize w1.alloc (.cells #[] 2) = w2 at *
  go_loopw [7, 39] (fun vl vi wr => ∃ (k : Nat) (acc : List Int), vi = .int .i64 k ∧ k ≤ 1 ∧ Hid (acc.length = k) ∧ Hid (wr.ownsRow w1.heap.size 2 1 vl acc.length (acc.map (Value.int .i64))) ∧ Hid (nums (vs.drop k) acc = ([a], 0)) ∧ Hid (Below (w.alloc (.cells #[.int .i64 0, .int .i64 0, .string { data := #[] }] 28)).heap.size (w.alloc (.cells #[.int .i64 0, .int .i64 0, .string { data := #[] }] 28)) wr) ∧ Hid (w1.heap.size ≤ wr.heap.size)) (fun _ vi _ => 1 - (RowKit.intOf vi).toNat)
  case atStart => exact ⟨0, [], rfl, by omega, Lib.hid rfl, ho0, Lib.hid (by rw [List.drop_zero]; exact HR.out), HB2, hs2⟩
  case round =>
    obtain ⟨k, acc, rfl, hk, hlen, hown, hinv, hbl, hwz⟩ := hrel
    clear ho0 HB2 hs2
    by_cases hkn : k < 1
    · obtain ⟨u, hu⟩ : ∃ u, vs[k]? = some u := ⟨vs[k]'(by rw [HN.out]; exact hkn), List.getElem?_eq_getElem _⟩
      obtain ⟨ku, nu, su, eu⟩ := tell_form u
      have hA2 := (HA.out.below (w' := (w.alloc (.cells #[.int .i64 0, .int .i64 0, .string { data := #[] }] 28))) ((Below.refl _ _).alloc (Nat.le_refl _) _)).below hbl.out
      obtain ⟨hc0, hc1, hc2⟩ := hA2.2 k u ku nu su hu eu
      obtain ⟨nn, f, hf⟩ : ∃ nn f, u.asNum = (nn, f) := ⟨_, _, rfl⟩
      have hdr : vs.drop k = u :: vs.drop (k + 1) := by
        obtain ⟨e1, e2⟩ := List.getElem?_eq_some_iff.1 hu
        rw [List.drop_eq_getElem_cons e1, e2]
      have hi2 := hinv.out
      rw [hdr, nums_cons _ _ _ _ _ hf] at hi2
      have hf0 : f = 0 := by
        by_cases h : f = 0
        · exact h
        · rw [if_neg h] at hi2; simp at hi2
      subst hf0
      rw [if_pos rfl] at hi2
      have HAN := Lib.hid fun w => refAsNumber_any u nn 0 w (short_at HS.out hu) hf
      rw [eu] at HAN
      have HN2 := Lib.hid hi2
      have hkz : k ≤ 1000 := by omega
      clear hi2 hdr hf hu eu hinv hA2
      go_wp2_with (first | (go_at_call 62; fail))
      go_at_call 62
      refine (HAN.out _).mono ?_
      rintro e w3 ⟨rfl, hb3⟩
      have hr3 : Below wr.heap.size wr w3 := ((Below.refl _ _).alloc (Nat.le_refl _) _).trans (hb3.mono (by simp))
      have hb03 := hbl.out.trans (hr3.mono hbl.out.size)
      have hown3 := Lib.hid (owns_below hown.out hr3)
      have hsz3 := hr3.size
      have HL2 := Lib.hid (show acc.length + 1 ≤ 2000 by have := hlen.out; omega)
      have hwz3 : Hid (w1.heap.size ≤ w3.heap.size) := Lib.hid (Nat.le_trans hwz.out hsz3)
      clear hr3 hb3 hc0 hc1 hc2 hown hbl HAN
      go_wp2_with (first | (at_builtin; refine wpList_append_own _ rfl _ _ 102 rfl w1.heap.size 2 i0 (.int .i64 0) 1 8 Tryz.underlying102 hi hz0 hz1 hz2 rfl (by decide) _ _ _ rfl (hown3.out.alloc _) ⟨w3.heap.size, 0, none⟩ 1 1 [.int .i64 nn] rfl rfl ?c1 ?c2 ?c3 ?c4 ?c5 ?_))
      case c1 => exact news_one _ _ _
      case c2 => intro u hu; simp at hu; subst hu; rfl
      case c3 => have := HL2.out; unfold maxLen; omega
      case c4 => have := HL2.out; omega
      case c5 => have := hwz3.out; simp; omega
      · intro v' w4 hown4 hgrow4 _
        have hb04 := Lib.hid ((hb03.alloc hb03.size _).grown hgrow4 (by simp; have := hb03.size; simp at this; omega) (fun k hk => Nat.le_trans hs1.out (owns_row hown3.out k hk)))
        have HO := Lib.hid hown4
        have hwz4 : Hid (w1.heap.size ≤ w4.heap.size) := Lib.hid (by have := hgrow4.size; have := hwz3.out; simp at *; omega)
        clear hown4 hgrow4 hb03 hown3
        go_wp2
        go_roundw
        case rel => exact ⟨k + 1, acc ++ [nn], rfl, by omega, Lib.hid (by simp [hlen.out]), Lib.hid (by simpa using HO.out), HN2, hb04, hwz4⟩
        case measure => simp [RowKit.intOf]; omega
    · obtain rfl : k = 1 := by omega
      have hac : acc = [a] := by
        have := hinv.out
        rw [List.drop_of_length_le (by rw [HN.out]; exact Nat.le_refl _)] at this
        simpa [nums] using this
      subst hac
      have ho := hown.out
      obtain ⟨g1, cap1, rfl, _, _⟩ := ho.form (by simp)
      have hc0 : wr.cell? ⟨g1, 0, none⟩ = some (.int .i64 a) := ho.cellAt 0 (by simp)
      have hbw := hbl.out
      clear ho hown hinv hbl hwz hlen HR HN HS HA hkn
      simp only [List.length_cons, List.length_nil, Nat.reduceAdd]
      go_wp2_with (first | (go_at_call 61; fail))
      go_at_call 61
      refine (HC.out _).mono ?_
      rintro e w3 ⟨rfl, hbx⟩
      have hb3 := hbw.trans (hbx.mono hbw.size)
      clear hbx hbw
      obtain ⟨hc', hf', hlt', hb0⟩ := out_ready hb3
      go_wp2
      obtain ⟨e0, e1, e2⟩ := set_three w3 w.heap.size (.int .i64 ya) (.int .i64 yb) (.string yc) (hc' 0) (hc' 1) (hc' 2)
      have hbf := set_below hb0 (.int .i64 ya) (.int .i64 yb) (.string yc)
      generalize (((w3.setCell ⟨w.heap.size, 0, none⟩ (.int .i64 ya)).setCell ⟨w.heap.size, 1, none⟩ (.int .i64 yb)).setCell ⟨w.heap.size, 2, none⟩ (.string yc)) = wf at *
      refine bodyPost_ret (v := .agg #[.int .i64 ya, .int .i64 yb, .string yc]) (by simp [results, Tryz.results15, go_sem, e0, e1, e2]) rfl ?_
      exact ⟨rfl, hbf⟩
set_option maxHeartbeats 3200000 in
set_option maxRecDepth 100000 in
theorem refCall_SQRT1 (vs : List V) (g cap : Nat) (a : Int) (v : V) (w : World) (hA : TellsAt w g vs) (hs : ∀ v ∈ vs, v.short 4294967) (hlen : vs.length = 1) (hnum : nums vs [] = ([a], 0)) (ha : -999999999999999999 ≤ a ∧ a ≤ 999999999999999999) (hsg : 0 ≤ a) (hv : V.num (Tab.sqrtS a : Int) = v) :
    Calls Tryz.prog 15 #[.string ⟨#[83, 81, 82, 84]⟩, .slice (some ⟨g, 0, none⟩) 1 cap] w fun e w' => e = .returned v.tell ∧ Below w.heap.size w w' := by
  obtain ⟨i0, hi, hz0, hz1, hz2⟩ := info_parts info2i
  obtain ⟨ya, yb, yc, ev⟩ := tell_form v
  have HL : Hid (∀ w, Calls Tryz.prog 39 #[.string ⟨#[83, 81, 82, 84]⟩] w fun e w' => e = .returned (.tuple #[.int .i64 1, .int .i64 1]) ∧ Below w.heap.size w w') := Lib.hid fun w => refLimits_any ⟨#[83, 81, 82, 84]⟩ 1 1 w (by decide +kernel)
  have HX := Lib.hid fun w => refSqrt_any a w hsg ha.2
  have HC : Hid (∀ w, Calls Tryz.prog 63 #[.int .i64 ((Tab.sqrtS a : Int))] w fun e w' => e = .returned (.agg #[.int .i64 ya, .int .i64 yb, .string yc]) ∧ Below w.heap.size w w') := Lib.hid fun w => by
    have := refNum_any ((Tab.sqrtS a : Int)) w
    rw [hv, ev] at this
    exact this
  rw [ev]
  clear hv ev
  generalize (Tab.sqrtS a : Int) = sq at *
  have hs1 : ¬ a < 0 := by omega
  have HA := Lib.hid hA
  have HS := Lib.hid hs
  have HN := Lib.hid hlen
  have HR := Lib.hid hnum
  clear hA hs hlen hnum
  go_enter Tryz.func15, Tryz.ntmps15
  go_wp2_with (first | (go_at_call 39; fail))
  go_at_call 39
  refine (HL.out _).mono ?_
  rintro e w1 ⟨rfl, hb1⟩
  go_wp2
  have hb2 : Below (w.alloc (.cells #[.int .i64 0, .int .i64 0, .string { data := #[] }] 28)).heap.size (w.alloc (.cells #[.int .i64 0, .int .i64 0, .string { data := #[] }] 28)) (w1.alloc (.cells #[] 2)) := hb1.alloc hb1.size _
  have HB2 := Lib.hid hb2
  have ho0 := Lib.hid (owns_empty2 w1)
  have hs1 : Hid ((w.alloc (.cells #[.int .i64 0, .int .i64 0, .string { data := #[] }] 28)).heap.size ≤ w1.heap.size) := Lib.hid hb1.size
  have hs2 : Hid (w1.heap.size ≤ (w1.alloc (.cells #[] 2)).heap.size) := Lib.hid (by simp)
  clear hb1 hb2
  generalize w1.alloc (.cells #[] 2) = w2 at *
  go_loopw [7, 39] (fun vl vi wr => ∃ (k : Nat) (acc : List Int), vi = .int .i64 k ∧ k ≤ 1 ∧ Hid (acc.length = k) ∧ Hid (wr.ownsRow w1.heap.size 2 1 vl acc.length (acc.map (Value.int .i64))) ∧ Hid (nums (vs.drop k) acc = ([a], 0)) ∧ Hid (Below (w.alloc (.cells #[.int .i64 0, .int .i64 0, .string { data := #[] }] 28)).heap.size (w.alloc (.cells #[.int .i64 0, .int .i64 0, .string { data := #[] }] 28)) wr) ∧ Hid (w1.heap.size ≤ wr.heap.size)) (fun _ vi _ => 1 - (RowKit.intOf vi).toNat)
  case atStart => exact ⟨0, [], rfl, by omega, Lib.hid rfl, ho0, Lib.hid (by rw [List.drop_zero]; exact HR.out), HB2, hs2⟩
  case round =>
    obtain ⟨k, acc, rfl, hk, hlen, hown, hinv, hbl, hwz⟩ := hrel
    clear ho0 HB2 hs2
    by_cases hkn : k < 1
    · obtain ⟨u, hu⟩ : ∃ u, vs[k]? = some u := ⟨vs[k]'(by rw [HN.out]; exact hkn), List.getElem?_eq_getElem _⟩
      obtain ⟨ku, nu, su, eu⟩ := tell_form u
      have hA2 := (HA.out.below (w' := (w.alloc (.cells #[.int .i64 0, .int .i64 0, .string { data := #[] }] 28))) ((Below.refl _ _).alloc (Nat.le_refl _) _)).below hbl.out
      obtain ⟨hc0, hc1, hc2⟩ := hA2.2 k u ku nu su hu eu
      obtain ⟨nn, f, hf⟩ : ∃ nn f, u.asNum = (nn, f) := ⟨_, _, rfl⟩
      have hdr : vs.drop k = u :: vs.drop (k + 1) := by
        obtain ⟨e1, e2⟩ := List.getElem?_eq_some_iff.1 hu
        rw [List.drop_eq_getElem_cons e1, e2]
      have hi2 := hinv.out
      rw [hdr, nums_cons _ _ _ _ _ hf] at hi2
      have hf0 : f = 0 := by
        by_cases h : f = 0
        · exact h
        · rw [if_neg h] at hi2; simp at hi2
      subst hf0
      rw [if_pos rfl] at hi2
      have HAN := Lib.hid fun w => refAsNumber_any u nn 0 w (short_at HS.out hu) hf
      rw [eu] at HAN
      have HN2 := Lib.hid hi2
      have hkz : k ≤ 1000 := by omega
      clear hi2 hdr hf hu eu hinv hA2
      go_wp2_with (first | (go_at_call 62; fail))
      go_at_call 62
      refine (HAN.out _).mono ?_
      rintro e w3 ⟨rfl, hb3⟩
      have hr3 : Below wr.heap.size wr w3 := ((Below.refl _ _).alloc (Nat.le_refl _) _).trans (hb3.mono (by simp))
      have hb03 := hbl.out.trans (hr3.mono hbl.out.size)
      have hown3 := Lib.hid (owns_below hown.out hr3)
      have hsz3 := hr3.size
      have HL2 := Lib.hid (show acc.length + 1 ≤ 2000 by have := hlen.out; omega)
      have hwz3 : Hid (w1.heap.size ≤ w3.heap.size) := Lib.hid (Nat.le_trans hwz.out hsz3)
      clear hr3 hb3 hc0 hc1 hc2 hown hbl HAN
      go_wp2_with (first | (at_builtin; refine wpList_append_own _ rfl _ _ 102 rfl w1.heap.size 2 i0 (.int .i64 0) 1 8 Tryz.underlying102 hi hz0 hz1 hz2 rfl (by decide) _ _ _ rfl (hown3.out.alloc _) ⟨w3.heap.size, 0, none⟩ 1 1 [.int .i64 nn] rfl rfl ?c1 ?c2 ?c3 ?c4 ?c5 ?_))
      case c1 => exact news_one _ _ _
      case c2 => intro u hu; simp at hu; subst hu; rfl
      case c3 => have := HL2.out; unfold maxLen; omega
      case c4 => have := HL2.out; omega
      case c5 => have := hwz3.out; simp; omega
      · intro v' w4 hown4 hgrow4 _
        have hb04 := Lib.hid ((hb03.alloc hb03.size _).grown hgrow4 (by simp; have := hb03.size; simp at this; omega) (fun k hk => Nat.le_trans hs1.out (owns_row hown3.out k hk)))
        have HO := Lib.hid hown4
        have hwz4 : Hid (w1.heap.size ≤ w4.heap.size) := Lib.hid (by have := hgrow4.size; have := hwz3.out; simp at *; omega)
        clear hown4 hgrow4 hb03 hown3
        go_wp2
        go_roundw
        case rel => exact ⟨k + 1, acc ++ [nn], rfl, by omega, Lib.hid (by simp [hlen.out]), Lib.hid (by simpa using HO.out), HN2, hb04, hwz4⟩
        case measure => simp [RowKit.intOf]; omega
    · obtain rfl : k = 1 := by omega
      have hac : acc = [a] := by
        have := hinv.out
        rw [List.drop_of_length_le (by rw [HN.out]; exact Nat.le_refl _)] at this
        simpa [nums] using this
      subst hac
      have ho := hown.out
      obtain ⟨g1, cap1, rfl, _, _⟩ := ho.form (by simp)
      have hc0 : wr.cell? ⟨g1, 0, none⟩ = some (.int .i64 a) := ho.cellAt 0 (by simp)
      have hbw := hbl.out
      clear ho hown hinv hbl hwz hlen HR HN HS HA hkn
      simp only [List.length_cons, List.length_nil, Nat.reduceAdd]
      go_wp2_with (first | (go_at_call 75; fail))
      go_at_call 75
      refine (HX.out _).mono ?_
      rintro e w3 ⟨rfl, hbx⟩
      have hb3 := hbw.trans (hbx.mono hbw.size)
      clear hbx hbw
      go_wp2_with (first | (go_at_call 63; fail))
      go_at_call 63
      refine (HC.out _).mono ?_
      rintro e w4 ⟨rfl, hbx⟩
      have hb4 := hb3.trans (hbx.mono hb3.size)
      clear hbx hb3
      obtain ⟨hc', hf', hlt', hb0⟩ := out_ready hb4
      go_wp2
      obtain ⟨e0, e1, e2⟩ := set_three w4 w.heap.size (.int .i64 ya) (.int .i64 yb) (.string yc) (hc' 0) (hc' 1) (hc' 2)
      have hbf := set_below hb0 (.int .i64 ya) (.int .i64 yb) (.string yc)
      generalize (((w4.setCell ⟨w.heap.size, 0, none⟩ (.int .i64 ya)).setCell ⟨w.heap.size, 1, none⟩ (.int .i64 yb)).setCell ⟨w.heap.size, 2, none⟩ (.string yc)) = wf at *
      refine bodyPost_ret (v := .agg #[.int .i64 ya, .int .i64 yb, .string yc]) (by simp [results, Tryz.results15, go_sem, e0, e1, e2]) rfl ?_
      exact ⟨rfl, hbf⟩
set_option maxHeartbeats 3200000 in
set_option maxRecDepth 100000 in
theorem refCall_FACT1 (vs : List V) (g cap : Nat) (a : Int) (v : V) (w : World) (hA : TellsAt w g vs) (hs : ∀ v ∈ vs, v.short 4294967) (hlen : vs.length = 1) (hnum : nums vs [] = ([a], 0)) (ha : -999999999999999999 ≤ a ∧ a ≤ 999999999999999999) (hv : factV a = v) :
    Calls Tryz.prog 15 #[.string ⟨#[70, 65, 67, 84]⟩, .slice (some ⟨g, 0, none⟩) 1 cap] w fun e w' => e = .returned v.tell ∧ Below w.heap.size w w' := by
  obtain ⟨i0, hi, hz0, hz1, hz2⟩ := info_parts info2i
  obtain ⟨ya, yb, yc, ev⟩ := tell_form v
  have HL : Hid (∀ w, Calls Tryz.prog 39 #[.string ⟨#[70, 65, 67, 84]⟩] w fun e w' => e = .returned (.tuple #[.int .i64 1, .int .i64 1]) ∧ Below w.heap.size w w') := Lib.hid fun w => refLimits_any ⟨#[70, 65, 67, 84]⟩ 1 1 w (by decide +kernel)
  have HC := Lib.hid fun w => refFact_any a v w ha hv
  rw [ev] at HC ⊢
  clear hv ev
  have HA := Lib.hid hA
  have HS := Lib.hid hs
  have HN := Lib.hid hlen
  have HR := Lib.hid hnum
  clear hA hs hlen hnum
  go_enter Tryz.func15, Tryz.ntmps15
  go_wp2_with (first | (go_at_call 39; fail))
  go_at_call 39
  refine (HL.out _).mono ?_
  rintro e w1 ⟨rfl, hb1⟩
  go_wp2
  have hb2 : Below (w.alloc (.cells #[.int .i64 0, .int .i64 0, .string { data := #[] }] 28)).heap.size (w.alloc (.cells #[.int .i64 0, .int .i64 0, .string { data := #[] }] 28)) (w1.alloc (.cells #[] 2)) := hb1.alloc hb1.size _
  have HB2 := Lib.hid hb2
  have ho0 := Lib.hid (owns_empty2 w1)
  have hs1 : Hid ((w.alloc (.cells #[.int .i64 0, .int .i64 0, .string { data := #[] }] 28)).heap.size ≤ w1.heap.size) := Lib.hid hb1.size
  have hs2 : Hid (w1.heap.size ≤ (w1.alloc (.cells #[] 2)).heap.size) := Lib.hid (by simp)
  clear hb1 hb2
  generalize w1.alloc (.cells #[] 2) = w2 at *
  go_loopw [7, 39] (fun vl vi wr => ∃ (k : Nat) (acc : List Int), vi = .int .i64 k ∧ k ≤ 1 ∧ Hid (acc.length = k) ∧ Hid (wr.ownsRow w1.heap.size 2 1 vl acc.length (acc.map (Value.int .i64))) ∧ Hid (nums (vs.drop k) acc = ([a], 0)) ∧ Hid (Below (w.alloc (.cells #[.int .i64 0, .int .i64 0, .string { data := #[] }] 28)).heap.size (w.alloc (.cells #[.int .i64 0, .int .i64 0, .string { data := #[] }] 28)) wr) ∧ Hid (w1.heap.size ≤ wr.heap.size)) (fun _ vi _ => 1 - (RowKit.intOf vi).toNat)
  case atStart => exact ⟨0, [], rfl, by omega, Lib.hid rfl, ho0, Lib.hid (by rw [List.drop_zero]; exact HR.out), HB2, hs2⟩
  case round =>
    obtain ⟨k, acc, rfl, hk, hlen, hown, hinv, hbl, hwz⟩ := hrel
    clear ho0 HB2 hs2
    by_cases hkn : k < 1
    · obtain ⟨u, hu⟩ : ∃ u, vs[k]? = some u := ⟨vs[k]'(by rw [HN.out]; exact hkn), List.getElem?_eq_getElem _⟩
      obtain ⟨ku, nu, su, eu⟩ := tell_form u
      have hA2 := (HA.out.below (w' := (w.alloc (.cells #[.int .i64 0, .int .i64 0, .string { data := #[] }] 28))) ((Below.refl _ _).alloc (Nat.le_refl _) _)).below hbl.out
      obtain ⟨hc0, hc1, hc2⟩ := hA2.2 k u ku nu su hu eu
      obtain ⟨nn, f, hf⟩ : ∃ nn f, u.asNum = (nn, f) := ⟨_, _, rfl⟩
      have hdr : vs.drop k = u :: vs.drop (k + 1) := by
        obtain ⟨e1, e2⟩ := List.getElem?_eq_some_iff.1 hu
        rw [List.drop_eq_getElem_cons e1, e2]
      have hi2 := hinv.out
      rw [hdr, nums_cons _ _ _ _ _ hf] at hi2
      have hf0 : f = 0 := by
        by_cases h : f = 0
        · exact h
        · rw [if_neg h] at hi2; simp at hi2
      subst hf0
      rw [if_pos rfl] at hi2
      have HAN := Lib.hid fun w => refAsNumber_any u nn 0 w (short_at HS.out hu) hf
      rw [eu] at HAN
      have HN2 := Lib.hid hi2
      have hkz : k ≤ 1000 := by omega
      clear hi2 hdr hf hu eu hinv hA2
      go_wp2_with (first | (go_at_call 62; fail))
      go_at_call 62
      refine (HAN.out _).mono ?_
      rintro e w3 ⟨rfl, hb3⟩
      have hr3 : Below wr.heap.size wr w3 := ((Below.refl _ _).alloc (Nat.le_refl _) _).trans (hb3.mono (by simp))
      have hb03 := hbl.out.trans (hr3.mono hbl.out.size)
      have hown3 := Lib.hid (owns_below hown.out hr3)
      have hsz3 := hr3.size
      have HL2 := Lib.hid (show acc.length + 1 ≤ 2000 by have := hlen.out; omega)
      have hwz3 : Hid (w1.heap.size ≤ w3.heap.size) := Lib.hid (Nat.le_trans hwz.out hsz3)
      clear hr3 hb3 hc0 hc1 hc2 hown hbl HAN
      go_wp2_with (first | (at_builtin; refine wpList_append_own _ rfl _ _ 102 rfl w1.heap.size 2 i0 (.int .i64 0) 1 8 Tryz.underlying102 hi hz0 hz1 hz2 rfl (by decide) _ _ _ rfl (hown3.out.alloc _) ⟨w3.heap.size, 0, none⟩ 1 1 [.int .i64 nn] rfl rfl ?c1 ?c2 ?c3 ?c4 ?c5 ?_))
      case c1 => exact news_one _ _ _
      case c2 => intro u hu; simp at hu; subst hu; rfl
      case c3 => have := HL2.out; unfold maxLen; omega
      case c4 => have := HL2.out; omega
      case c5 => have := hwz3.out; simp; omega
      · intro v' w4 hown4 hgrow4 _
        have hb04 := Lib.hid ((hb03.alloc hb03.size _).grown hgrow4 (by simp; have := hb03.size; simp at this; omega) (fun k hk => Nat.le_trans hs1.out (owns_row hown3.out k hk)))
        have HO := Lib.hid hown4
        have hwz4 : Hid (w1.heap.size ≤ w4.heap.size) := Lib.hid (by have := hgrow4.size; have := hwz3.out; simp at *; omega)
        clear hown4 hgrow4 hb03 hown3
        go_wp2
        go_roundw
        case rel => exact ⟨k + 1, acc ++ [nn], rfl, by omega, Lib.hid (by simp [hlen.out]), Lib.hid (by simpa using HO.out), HN2, hb04, hwz4⟩
        case measure => simp [RowKit.intOf]; omega
    · obtain rfl : k = 1 := by omega
      have hac : acc = [a] := by
        have := hinv.out
        rw [List.drop_of_length_le (by rw [HN.out]; exact Nat.le_refl _)] at this
        simpa [nums] using this
      subst hac
      have ho := hown.out
      obtain ⟨g1, cap1, rfl, _, _⟩ := ho.form (by simp)
      have hc0 : wr.cell? ⟨g1, 0, none⟩ = some (.int .i64 a) := ho.cellAt 0 (by simp)
      have hbw := hbl.out
      clear ho hown hinv hbl hwz hlen HR HN HS HA hkn
      simp only [List.length_cons, List.length_nil, Nat.reduceAdd]
      go_wp2_with (first | (go_at_call 76; fail))
      go_at_call 76
      refine (HC.out _).mono ?_
      rintro e w3 ⟨rfl, hbx⟩
      have hb3 := hbw.trans (hbx.mono hbw.size)
      clear hbx hbw
      obtain ⟨hc', hf', hlt', hb0⟩ := out_ready hb3
      go_wp2
      obtain ⟨e0, e1, e2⟩ := set_three w3 w.heap.size (.int .i64 ya) (.int .i64 yb) (.string yc) (hc' 0) (hc' 1) (hc' 2)
      have hbf := set_below hb0 (.int .i64 ya) (.int .i64 yb) (.string yc)
      generalize (((w3.setCell ⟨w.heap.size, 0, none⟩ (.int .i64 ya)).setCell ⟨w.heap.size, 1, none⟩ (.int .i64 yb)).setCell ⟨w.heap.size, 2, none⟩ (.string yc)) = wf at *
      refine bodyPost_ret (v := .agg #[.int .i64 ya, .int .i64 yb, .string yc]) (by simp [results, Tryz.results15, go_sem, e0, e1, e2]) rfl ?_
      exact ⟨rfl, hbf⟩
set_option maxHeartbeats 3200000 in
set_option maxRecDepth 100000 in
theorem refCall_EVEN1 (vs : List V) (g cap : Nat) (a : Int) (v : V) (w : World) (hA : TellsAt w g vs) (hs : ∀ v ∈ vs, v.short 4294967) (hlen : vs.length = 1) (hnum : nums vs [] = ([a], 0)) (ha : -999999999999999999 ≤ a ∧ a ≤ 999999999999999999) (hv : pairV a 0 = v) :
    Calls Tryz.prog 15 #[.string ⟨#[69, 86, 69, 78]⟩, .slice (some ⟨g, 0, none⟩) 1 cap] w fun e w' => e = .returned v.tell ∧ Below w.heap.size w w' := by
  obtain ⟨i0, hi, hz0, hz1, hz2⟩ := info_parts info2i
  obtain ⟨ya, yb, yc, ev⟩ := tell_form v
  have HL : Hid (∀ w, Calls Tryz.prog 39 #[.string ⟨#[69, 86, 69, 78]⟩] w fun e w' => e = .returned (.tuple #[.int .i64 1, .int .i64 1]) ∧ Below w.heap.size w w') := Lib.hid fun w => refLimits_any ⟨#[69, 86, 69, 78]⟩ 1 1 w (by decide +kernel)
  have HC : Hid (∀ w, Calls Tryz.prog 77 #[.int .i64 a, .int .i64 0] w fun e w' => e = .returned v.tell ∧ Below w.heap.size w w') := Lib.hid fun w => refEven_any a 0 v w (by omega) ha hv
  rw [ev] at HC ⊢
  clear hv ev
  have HA := Lib.hid hA
  have HS := Lib.hid hs
  have HN := Lib.hid hlen
  have HR := Lib.hid hnum
  clear hA hs hlen hnum
  go_enter Tryz.func15, Tryz.ntmps15
  go_wp2_with (first | (go_at_call 39; fail))
  go_at_call 39
  refine (HL.out _).mono ?_
  rintro e w1 ⟨rfl, hb1⟩
  go_wp2
  have hb2 : Below (w.alloc (.cells #[.int .i64 0, .int .i64 0, .string { data := #[] }] 28)).heap.size (w.alloc (.cells #[.int .i64 0, .int .i64 0, .string { data := #[] }] 28)) (w1.alloc (.cells #[] 2)) := hb1.alloc hb1.size _
  have HB2 := Lib.hid hb2
  have ho0 := Lib.hid (owns_empty2 w1)
  have hs1 : Hid ((w.alloc (.cells #[.int .i64 0, .int .i64 0, .string { data := #[] }] 28)).heap.size ≤ w1.heap.size) := Lib.hid hb1.size
  have hs2 : Hid (w1.heap.size ≤ (w1.alloc (.cells #[] 2)).heap.size) := Lib.hid (by simp)
  clear hb1 hb2
  generalize w1.alloc (.cells #[] 2) = w2 at *
  go_loopw [7, 39] (fun vl vi wr => ∃ (k : Nat) (acc : List Int), vi = .int .i64 k ∧ k ≤ 1 ∧ Hid (acc.length = k) ∧ Hid (wr.ownsRow w1.heap.size 2 1 vl acc.length (acc.map (Value.int .i64))) ∧ Hid (nums (vs.drop k) acc = ([a], 0)) ∧ Hid (Below (w.alloc (.cells #[.int .i64 0, .int .i64 0, .string { data := #[] }] 28)).heap.size (w.alloc (.cells #[.int .i64 0, .int .i64 0, .string { data := #[] }] 28)) wr) ∧ Hid (w1.heap.size ≤ wr.heap.size)) (fun _ vi _ => 1 - (RowKit.intOf vi).toNat)
  case atStart => exact ⟨0, [], rfl, by omega, Lib.hid rfl, ho0, Lib.hid (by rw [List.drop_zero]; exact HR.out), HB2, hs2⟩
  case round =>
    obtain ⟨k, acc, rfl, hk, hlen, hown, hinv, hbl, hwz⟩ := hrel
    clear ho0 HB2 hs2
    by_cases hkn : k < 1
    · obtain ⟨u, hu⟩ : ∃ u, vs[k]? = some u := ⟨vs[k]'(by rw [HN.out]; exact hkn), List.getElem?_eq_getElem _⟩
      obtain ⟨ku, nu, su, eu⟩ := tell_form u
      have hA2 := (HA.out.below (w' := (w.alloc (.cells #[.int .i64 0, .int .i64 0, .string { data := #[] }] 28))) ((Below.refl _ _).alloc (Nat.le_refl _) _)).below hbl.out
      obtain ⟨hc0, hc1, hc2⟩ := hA2.2 k u ku nu su hu eu
      obtain ⟨nn, f, hf⟩ : ∃ nn f, u.asNum = (nn, f) := ⟨_, _, rfl⟩
      have hdr : vs.drop k = u :: vs.drop (k + 1) := by
        obtain ⟨e1, e2⟩ := List.getElem?_eq_some_iff.1 hu
        rw [List.drop_eq_getElem_cons e1, e2]
      have hi2 := hinv.out
      rw [hdr, nums_cons _ _ _ _ _ hf] at hi2
      have hf0 : f = 0 := by
        by_cases h : f = 0
        · exact h
        · rw [if_neg h] at hi2; simp at hi2
      subst hf0
      rw [if_pos rfl] at hi2
      have HAN := Lib.hid fun w => refAsNumber_any u nn 0 w (short_at HS.out hu) hf
      rw [eu] at HAN
      have HN2 := Lib.hid hi2
      have hkz : k ≤ 1000 := by omega
      clear hi2 hdr hf hu eu hinv hA2
      go_wp2_with (first | (go_at_call 62; fail))
      go_at_call 62
      refine (HAN.out _).mono ?_
      rintro e w3 ⟨rfl, hb3⟩
      have hr3 : Below wr.heap.size wr w3 := ((Below.refl _ _).alloc (Nat.le_refl _) _).trans (hb3.mono (by simp))
      have hb03 := hbl.out.trans (hr3.mono hbl.out.size)
      have hown3 := Lib.hid (owns_below hown.out hr3)
      have hsz3 := hr3.size
      have HL2 := Lib.hid (show acc.length + 1 ≤ 2000 by have := hlen.out; omega)
      have hwz3 : Hid (w1.heap.size ≤ w3.heap.size) := Lib.hid (Nat.le_trans hwz.out hsz3)
      clear hr3 hb3 hc0 hc1 hc2 hown hbl HAN
      go_wp2_with (first | (at_builtin; refine wpList_append_own _ rfl _ _ 102 rfl w1.heap.size 2 i0 (.int .i64 0) 1 8 Tryz.underlying102 hi hz0 hz1 hz2 rfl (by decide) _ _ _ rfl (hown3.out.alloc _) ⟨w3.heap.size, 0, none⟩ 1 1 [.int .i64 nn] rfl rfl ?c1 ?c2 ?c3 ?c4 ?c5 ?_))
      case c1 => exact news_one _ _ _
      case c2 => intro u hu; simp at hu; subst hu; rfl
      case c3 => have := HL2.out; unfold maxLen; omega
      case c4 => have := HL2.out; omega
      case c5 => have := hwz3.out; simp; omega
      · intro v' w4 hown4 hgrow4 _
        have hb04 := Lib.hid ((hb03.alloc hb03.size _).grown hgrow4 (by simp; have := hb03.size; simp at this; omega) (fun k hk => Nat.le_trans hs1.out (owns_row hown3.out k hk)))
        have HO := Lib.hid hown4
        have hwz4 : Hid (w1.heap.size ≤ w4.heap.size) := Lib.hid (by have := hgrow4.size; have := hwz3.out; simp at *; omega)
        clear hown4 hgrow4 hb03 hown3
        go_wp2
        go_roundw
        case rel => exact ⟨k + 1, acc ++ [nn], rfl, by omega, Lib.hid (by simp [hlen.out]), Lib.hid (by simpa using HO.out), HN2, hb04, hwz4⟩
        case measure => simp [RowKit.intOf]; omega
    · obtain rfl : k = 1 := by omega
      have hac : acc = [a] := by
        have := hinv.out
        rw [List.drop_of_length_le (by rw [HN.out]; exact Nat.le_refl _)] at this
        simpa [nums] using this
      subst hac
      have ho := hown.out
      obtain ⟨g1, cap1, rfl, _, _⟩ := ho.form (by simp)
      have hc0 : wr.cell? ⟨g1, 0, none⟩ = some (.int .i64 a) := ho.cellAt 0 (by simp)
      have hbw := hbl.out
      clear ho hown hinv hbl hwz hlen HR HN HS HA hkn
      simp only [List.length_cons, List.length_nil, Nat.reduceAdd]
      go_wp2_with (first | (go_at_call 77; fail))
      go_at_call 77
      refine (HC.out _).mono ?_
      rintro e w3 ⟨rfl, hbx⟩
      have hb3 := hbw.trans (hbx.mono hbw.size)
      clear hbx hbw
      obtain ⟨hc', hf', hlt', hb0⟩ := out_ready hb3
      go_wp2
      obtain ⟨e0, e1, e2⟩ := set_three w3 w.heap.size (.int .i64 ya) (.int .i64 yb) (.string yc) (hc' 0) (hc' 1) (hc' 2)
      have hbf := set_below hb0 (.int .i64 ya) (.int .i64 yb) (.string yc)
      generalize (((w3.setCell ⟨w.heap.size, 0, none⟩ (.int .i64 ya)).setCell ⟨w.heap.size, 1, none⟩ (.int .i64 yb)).setCell ⟨w.heap.size, 2, none⟩ (.string yc)) = wf at *
      refine bodyPost_ret (v := .agg #[.int .i64 ya, .int .i64 yb, .string yc]) (by simp [results, Tryz.results15, go_sem, e0, e1, e2]) rfl ?_
      exact ⟨rfl, hbf⟩
set_option maxHeartbeats 3200000 in
set_option maxRecDepth 100000 in
theorem refCall_ODD1 (vs : List V) (g cap : Nat) (a : Int) (v : V) (w : World) (hA : TellsAt w g vs) (hs : ∀ v ∈ vs, v.short 4294967) (hlen : vs.length = 1) (hnum : nums vs [] = ([a], 0)) (ha : -999999999999999999 ≤ a ∧ a ≤ 999999999999999999) (hv : pairV a 1 = v) :
    Calls Tryz.prog 15 #[.string ⟨#[79, 68, 68]⟩, .slice (some ⟨g, 0, none⟩) 1 cap] w fun e w' => e = .returned v.tell ∧ Below w.heap.size w w' := by
  obtain ⟨i0, hi, hz0, hz1, hz2⟩ := info_parts info2i
  obtain ⟨ya, yb, yc, ev⟩ := tell_form v
  have HL : Hid (∀ w, Calls Tryz.prog 39 #[.string ⟨#[79, 68, 68]⟩] w fun e w' => e = .returned (.tuple #[.int .i64 1, .int .i64 1]) ∧ Below w.heap.size w w') := Lib.hid fun w => refLimits_any ⟨#[79, 68, 68]⟩ 1 1 w (by decide +kernel)
  have HC : Hid (∀ w, Calls Tryz.prog 77 #[.int .i64 a, .int .i64 1] w fun e w' => e = .returned v.tell ∧ Below w.heap.size w w') := Lib.hid fun w => refEven_any a 1 v w (by omega) ha hv
  rw [ev] at HC ⊢
  clear hv ev
  have HA := Lib.hid hA
  have HS := Lib.hid hs
  have HN := Lib.hid hlen
  have HR := Lib.hid hnum
  clear hA hs hlen hnum
  go_enter Tryz.func15, Tryz.ntmps15
  go_wp2_with (first | (go_at_call 39; fail))
  go_at_call 39
  refine (HL.out _).mono ?_
  rintro e w1 ⟨rfl, hb1⟩
  go_wp2
  have hb2 : Below (w.alloc (.cells #[.int .i64 0, .int .i64 0, .string { data := #[] }] 28)).heap.size (w.alloc (.cells #[.int .i64 0, .int .i64 0, .string { data := #[] }] 28)) (w1.alloc (.cells #[] 2)) := hb1.alloc hb1.size _
  have HB2 := Lib.hid hb2
  have ho0 := Lib.hid (owns_empty2 w1)
  have hs1 : Hid ((w.alloc (.cells #[.int .i64 0, .int .i64 0, .string { data := #[] }] 28)).heap.size ≤ w1.heap.size) := Lib.hid hb1.size
  have hs2 : Hid (w1.heap.size ≤ (w1.alloc (.cells #[] 2)).heap.size) := Lib.hid (by simp)
  clear hb1 hb2
  generalize w1.alloc (.cells #[] 2) = w2 at *
  go_loopw [7, 39] (fun vl vi wr => ∃ (k : Nat) (acc : List Int), vi = .int .i64 k ∧ k ≤ 1 ∧ Hid (acc.length = k) ∧ Hid (wr.ownsRow w1.heap.size 2 1 vl acc.length (acc.map (Value.int .i64))) ∧ Hid (nums (vs.drop k) acc = ([a], 0)) ∧ Hid (Below (w.alloc (.cells #[.int .i64 0, .int .i64 0, .string { data := #[] }] 28)).heap.size (w.alloc (.cells #[.int .i64 0, .int .i64 0, .string { data := #[] }] 28)) wr) ∧ Hid (w1.heap.size ≤ wr.heap.size)) (fun _ vi _ => 1 - (RowKit.intOf vi).toNat)
  case atStart => exact ⟨0, [], rfl, by omega, Lib.hid rfl, ho0, Lib.hid (by rw [List.drop_zero]; exact HR.out), HB2, hs2⟩
  case round =>
    obtain ⟨k, acc, rfl, hk, hlen, hown, hinv, hbl, hwz⟩ := hrel
    clear ho0 HB2 hs2
    by_cases hkn : k < 1
    · obtain ⟨u, hu⟩ : ∃ u, vs[k]? = some u := ⟨vs[k]'(by rw [HN.out]; exact hkn), List.getElem?_eq_getElem _⟩
      obtain ⟨ku, nu, su, eu⟩ := tell_form u
      have hA2 := (HA.out.below (w' := (w.alloc (.cells #[.int .i64 0, .int .i64 0, .string { data := #[] }] 28))) ((Below.refl _ _).alloc (Nat.le_refl _) _)).below hbl.out
      obtain ⟨hc0, hc1, hc2⟩ := hA2.2 k u ku nu su hu eu
      obtain ⟨nn, f, hf⟩ : ∃ nn f, u.asNum = (nn, f) := ⟨_, _, rfl⟩
      have hdr : vs.drop k = u :: vs.drop (k + 1) := by
        obtain ⟨e1, e2⟩ := List.getElem?_eq_some_iff.1 hu
        rw [List.drop_eq_getElem_cons e1, e2]
      have hi2 := hinv.out
      rw [hdr, nums_cons _ _ _ _ _ hf] at hi2
      have hf0 : f = 0 := by
        by_cases h : f = 0
        · exact h
        · rw [if_neg h] at hi2; simp at hi2
      subst hf0
      rw [if_pos rfl] at hi2
      have HAN := Lib.hid fun w => refAsNumber_any u nn 0 w (short_at HS.out hu) hf
      rw [eu] at HAN
      have HN2 := Lib.hid hi2
      have hkz : k ≤ 1000 := by omega
      clear hi2 hdr hf hu eu hinv hA2
      go_wp2_with (first | (go_at_call 62; fail))
      go_at_call 62
      refine (HAN.out _).mono ?_
      rintro e w3 ⟨rfl, hb3⟩
      have hr3 : Below wr.heap.size wr w3 := ((Below.refl _ _).alloc (Nat.le_refl _) _).trans (hb3.mono (by simp))
      have hb03 := hbl.out.trans (hr3.mono hbl.out.size)
      have hown3 := Lib.hid (owns_below hown.out hr3)
      have hsz3 := hr3.size
      have HL2 := Lib.hid (show acc.length + 1 ≤ 2000 by have := hlen.out; omega)
      have hwz3 : Hid (w1.heap.size ≤ w3.heap.size) := Lib.hid (Nat.le_trans hwz.out hsz3)
      clear hr3 hb3 hc0 hc1 hc2 hown hbl HAN
      go_wp2_with (first | (at_builtin; refine wpList_append_own _ rfl _ _ 102 rfl w1.heap.size 2 i0 (.int .i64 0) 1 8 Tryz.underlying102 hi hz0 hz1 hz2 rfl (by decide) _ _ _ rfl (hown3.out.alloc _) ⟨w3.heap.size, 0, none⟩ 1 1 [.int .i64 nn] rfl rfl ?c1 ?c2 ?c3 ?c4 ?c5 ?_))
      case c1 => exact news_one _ _ _
      case c2 => intro u hu; simp at hu; subst hu; rfl
      case c3 => have := HL2.out; unfold maxLen; omega
      case c4 => have := HL2.out; omega
      case c5 => have := hwz3.out; simp; omega
      · intro v' w4 hown4 hgrow4 _
        have hb04 := Lib.hid ((hb03.alloc hb03.size _).grown hgrow4 (by simp; have := hb03.size; simp at this; omega) (fun k hk => Nat.le_trans hs1.out (owns_row hown3.out k hk)))
        have HO := Lib.hid hown4
        have hwz4 : Hid (w1.heap.size ≤ w4.heap.size) := Lib.hid (by have := hgrow4.size; have := hwz3.out; simp at *; omega)
        clear hown4 hgrow4 hb03 hown3
        go_wp2
        go_roundw
        case rel => exact ⟨k + 1, acc ++ [nn], rfl, by omega, Lib.hid (by simp [hlen.out]), Lib.hid (by simpa using HO.out), HN2, hb04, hwz4⟩
        case measure => simp [RowKit.intOf]; omega
    · obtain rfl : k = 1 := by omega
      have hac : acc = [a] := by
        have := hinv.out
        rw [List.drop_of_length_le (by rw [HN.out]; exact Nat.le_refl _)] at this
        simpa [nums] using this
      subst hac
      have ho := hown.out
      obtain ⟨g1, cap1, rfl, _, _⟩ := ho.form (by simp)
      have hc0 : wr.cell? ⟨g1, 0, none⟩ = some (.int .i64 a) := ho.cellAt 0 (by simp)
      have hbw := hbl.out
      clear ho hown hinv hbl hwz hlen HR HN HS HA hkn
      simp only [List.length_cons, List.length_nil, Nat.reduceAdd]
      go_wp2_with (first | (go_at_call 77; fail))
      go_at_call 77
      refine (HC.out _).mono ?_
      rintro e w3 ⟨rfl, hbx⟩
      have hb3 := hbw.trans (hbx.mono hbw.size)
      clear hbx hbw
      obtain ⟨hc', hf', hlt', hb0⟩ := out_ready hb3
      go_wp2
      obtain ⟨e0, e1, e2⟩ := set_three w3 w.heap.size (.int .i64 ya) (.int .i64 yb) (.string yc) (hc' 0) (hc' 1) (hc' 2)
      have hbf := set_below hb0 (.int .i64 ya) (.int .i64 yb) (.string yc)
      generalize (((w3.setCell ⟨w.heap.size, 0, none⟩ (.int .i64 ya)).setCell ⟨w.heap.size, 1, none⟩ (.int .i64 yb)).setCell ⟨w.heap.size, 2, none⟩ (.string yc)) = wf at *
      refine bodyPost_ret (v := .agg #[.int .i64 ya, .int .i64 yb, .string yc]) (by simp [results, Tryz.results15, go_sem, e0, e1, e2]) rfl ?_
      exact ⟨rfl, hbf⟩
set_option maxHeartbeats 3200000 in
set_option maxRecDepth 100000 in
theorem refCall_TRUNC1 (vs : List V) (g cap : Nat) (a : Int) (v : V) (w : World) (hA : TellsAt w g vs) (hs : ∀ v ∈ vs, v.short 4294967) (hlen : vs.length = 1) (hnum : nums vs [] = ([a], 0)) (ha : -999999999999999999 ≤ a ∧ a ≤ 999999999999999999) (hv : V.num (Tab.truncS a 0) = v) :
    Calls Tryz.prog 15 #[.string ⟨#[84, 82, 85, 78, 67]⟩, .slice (some ⟨g, 0, none⟩) 1 cap] w fun e w' => e = .returned v.tell ∧ Below w.heap.size w w' := by
  obtain ⟨i0, hi, hz0, hz1, hz2⟩ := info_parts info2i
  obtain ⟨ya, yb, yc, ev⟩ := tell_form v
  have HL : Hid (∀ w, Calls Tryz.prog 39 #[.string ⟨#[84, 82, 85, 78, 67]⟩] w fun e w' => e = .returned (.tuple #[.int .i64 1, .int .i64 2]) ∧ Below w.heap.size w w') := Lib.hid fun w => refLimits_any ⟨#[84, 82, 85, 78, 67]⟩ 1 2 w (by decide +kernel)
  have HX := Lib.hid fun w => refTrunc_any a 0 w ha
  have HC : Hid (∀ w, Calls Tryz.prog 63 #[.int .i64 (Tab.truncS a 0)] w fun e w' => e = .returned (.agg #[.int .i64 ya, .int .i64 yb, .string yc]) ∧ Below w.heap.size w w') := Lib.hid fun w => by
    have := refNum_any (Tab.truncS a 0) w
    rw [hv, ev] at this
    exact this
  rw [ev]
  clear hv ev
  generalize Tab.truncS a 0 = t at *
  have HA := Lib.hid hA
  have HS := Lib.hid hs
  have HN := Lib.hid hlen
  have HR := Lib.hid hnum
  clear hA hs hlen hnum
  go_enter Tryz.func15, Tryz.ntmps15
  go_wp2_with (first | (go_at_call 39; fail))
  go_at_call 39
  refine (HL.out _).mono ?_
  rintro e w1 ⟨rfl, hb1⟩
  go_wp2
  have hb2 : Below (w.alloc (.cells #[.int .i64 0, .int .i64 0, .string { data := #[] }] 28)).heap.size (w.alloc (.cells #[.int .i64 0, .int .i64 0, .string { data := #[] }] 28)) (w1.alloc (.cells #[] 2)) := hb1.alloc hb1.size _
  have HB2 := Lib.hid hb2
  have ho0 := Lib.hid (owns_empty2 w1)
  have hs1 : Hid ((w.alloc (.cells #[.int .i64 0, .int .i64 0, .string { data := #[] }] 28)).heap.size ≤ w1.heap.size) := Lib.hid hb1.size
  have hs2 : Hid (w1.heap.size ≤ (w1.alloc (.cells #[] 2)).heap.size) := Lib.hid (by simp)
  clear hb1 hb2
  generalize w1.alloc (.cells #[] 2) = w2 at *
  go_loopw [7, 39] (fun vl vi wr => ∃ (k : Nat) (acc : List Int), vi = .int .i64 k ∧ k ≤ 1 ∧ Hid (acc.length = k) ∧ Hid (wr.ownsRow w1.heap.size 2 1 vl acc.length (acc.map (Value.int .i64))) ∧ Hid (nums (vs.drop k) acc = ([a], 0)) ∧ Hid (Below (w.alloc (.cells #[.int .i64 0, .int .i64 0, .string { data := #[] }] 28)).heap.size (w.alloc (.cells #[.int .i64 0, .int .i64 0, .string { data := #[] }] 28)) wr) ∧ Hid (w1.heap.size ≤ wr.heap.size)) (fun _ vi _ => 1 - (RowKit.intOf vi).toNat)
  case atStart => exact ⟨0, [], rfl, by omega, Lib.hid rfl, ho0, Lib.hid (by rw [List.drop_zero]; exact HR.out), HB2, hs2⟩
  case round =>
    obtain ⟨k, acc, rfl, hk, hlen, hown, hinv, hbl, hwz⟩ := hrel
    clear ho0 HB2 hs2
    by_cases hkn : k < 1
    · obtain ⟨u, hu⟩ : ∃ u, vs[k]? = some u := ⟨vs[k]'(by rw [HN.out]; exact hkn), List.getElem?_eq_getElem _⟩
      obtain ⟨ku, nu, su, eu⟩ := tell_form u
      have hA2 := (HA.out.below (w' := (w.alloc (.cells #[.int .i64 0, .int .i64 0, .string { data := #[] }] 28))) ((Below.refl _ _).alloc (Nat.le_refl _) _)).below hbl.out
      obtain ⟨hc0, hc1, hc2⟩ := hA2.2 k u ku nu su hu eu
      obtain ⟨nn, f, hf⟩ : ∃ nn f, u.asNum = (nn, f) := ⟨_, _, rfl⟩
      have hdr : vs.drop k = u :: vs.drop (k + 1) := by
        obtain ⟨e1, e2⟩ := List.getElem?_eq_some_iff.1 hu
        rw [List.drop_eq_getElem_cons e1, e2]
      have hi2 := hinv.out
      rw [hdr, nums_cons _ _ _ _ _ hf] at hi2
      have hf0 : f = 0 := by
        by_cases h : f = 0
        · exact h
        · rw [if_neg h] at hi2; simp at hi2
      subst hf0
      rw [if_pos rfl] at hi2
      have HAN := Lib.hid fun w => refAsNumber_any u nn 0 w (short_at HS.out hu) hf
      rw [eu] at HAN
      have HN2 := Lib.hid hi2
      have hkz : k ≤ 1000 := by omega
      clear hi2 hdr hf hu eu hinv hA2
      go_wp2_with (first | (go_at_call 62; fail))
      go_at_call 62
      refine (HAN.out _).mono ?_
      rintro e w3 ⟨rfl, hb3⟩
      have hr3 : Below wr.heap.size wr w3 := ((Below.refl _ _).alloc (Nat.le_refl _) _).trans (hb3.mono (by simp))
      have hb03 := hbl.out.trans (hr3.mono hbl.out.size)
      have hown3 := Lib.hid (owns_below hown.out hr3)
      have hsz3 := hr3.size
      have HL2 := Lib.hid (show acc.length + 1 ≤ 2000 by have := hlen.out; omega)
      have hwz3 : Hid (w1.heap.size ≤ w3.heap.size) := Lib.hid (Nat.le_trans hwz.out hsz3)
      clear hr3 hb3 hc0 hc1 hc2 hown hbl HAN
      go_wp2_with (first | (at_builtin; refine wpList_append_own _ rfl _ _ 102 rfl w1.heap.size 2 i0 (.int .i64 0) 1 8 Tryz.underlying102 hi hz0 hz1 hz2 rfl (by decide) _ _ _ rfl (hown3.out.alloc _) ⟨w3.heap.size, 0, none⟩ 1 1 [.int .i64 nn] rfl rfl ?c1 ?c2 ?c3 ?c4 ?c5 ?_))
      case c1 => exact news_one _ _ _
      case c2 => intro u hu; simp at hu; subst hu; rfl
      case c3 => have := HL2.out; unfold maxLen; omega
      case c4 => have := HL2.out; omega
      case c5 => have := hwz3.out; simp; omega
      · intro v' w4 hown4 hgrow4 _
        have hb04 := Lib.hid ((hb03.alloc hb03.size _).grown hgrow4 (by simp; have := hb03.size; simp at this; omega) (fun k hk => Nat.le_trans hs1.out (owns_row hown3.out k hk)))
        have HO := Lib.hid hown4
        have hwz4 : Hid (w1.heap.size ≤ w4.heap.size) := Lib.hid (by have := hgrow4.size; have := hwz3.out; simp at *; omega)
        clear hown4 hgrow4 hb03 hown3
        go_wp2
        go_roundw
        case rel => exact ⟨k + 1, acc ++ [nn], rfl, by omega, Lib.hid (by simp [hlen.out]), Lib.hid (by simpa using HO.out), HN2, hb04, hwz4⟩
        case measure => simp [RowKit.intOf]; omega
    · obtain rfl : k = 1 := by omega
      have hac : acc = [a] := by
        have := hinv.out
        rw [List.drop_of_length_le (by rw [HN.out]; exact Nat.le_refl _)] at this
        simpa [nums] using this
      subst hac
      have ho := hown.out
      obtain ⟨g1, cap1, rfl, _, _⟩ := ho.form (by simp)
      have hc0 : wr.cell? ⟨g1, 0, none⟩ = some (.int .i64 a) := ho.cellAt 0 (by simp)
      have hbw := hbl.out
      clear ho hown hinv hbl hwz hlen HR HN HS HA hkn
      simp only [List.length_cons, List.length_nil, Nat.reduceAdd]
      go_wp2_with (first | (go_at_call 67; fail))
      go_at_call 67
      refine (HX.out _).mono ?_
      rintro e w3 ⟨rfl, hbx⟩
      have hb3 := hbw.trans (hbx.mono hbw.size)
      clear hbx hbw
      go_wp2_with (first | (go_at_call 63; fail))
      go_at_call 63
      refine (HC.out _).mono ?_
      rintro e w4 ⟨rfl, hbx⟩
      have hb4 := hb3.trans (hbx.mono hb3.size)
      clear hbx hb3
      obtain ⟨hc', hf', hlt', hb0⟩ := out_ready hb4
      go_wp2
      obtain ⟨e0, e1, e2⟩ := set_three w4 w.heap.size (.int .i64 ya) (.int .i64 yb) (.string yc) (hc' 0) (hc' 1) (hc' 2)
      have hbf := set_below hb0 (.int .i64 ya) (.int .i64 yb) (.string yc)
      generalize (((w4.setCell ⟨w.heap.size, 0, none⟩ (.int .i64 ya)).setCell ⟨w.heap.size, 1, none⟩ (.int .i64 yb)).setCell ⟨w.heap.size, 2, none⟩ (.string yc)) = wf at *
      refine bodyPost_ret (v := .agg #[.int .i64 ya, .int .i64 yb, .string yc]) (by simp [results, Tryz.results15, go_sem, e0, e1, e2]) rfl ?_
      exact ⟨rfl, hbf⟩
set_option maxHeartbeats 3200000 in
set_option maxRecDepth 100000 in
theorem refCall_ROUNDDOWN1 (vs : List V) (g cap : Nat) (a : Int) (v : V) (w : World) (hA : TellsAt w g vs) (hs : ∀ v ∈ vs, v.short 4294967) (hlen : vs.length = 1) (hnum : nums vs [] = ([a], 0)) (ha : -999999999999999999 ≤ a ∧ a ≤ 999999999999999999) (hv : V.num (Tab.truncS a 0) = v) :
    Calls Tryz.prog 15 #[.string ⟨#[82, 79, 85, 78, 68, 68, 79, 87, 78]⟩, .slice (some ⟨g, 0, none⟩) 1 cap] w fun e w' => e = .returned v.tell ∧ Below w.heap.size w w' := by
  obtain ⟨i0, hi, hz0, hz1, hz2⟩ := info_parts info2i
  obtain ⟨ya, yb, yc, ev⟩ := tell_form v
  have HL : Hid (∀ w, Calls Tryz.prog 39 #[.string ⟨#[82, 79, 85, 78, 68, 68, 79, 87, 78]⟩] w fun e w' => e = .returned (.tuple #[.int .i64 1, .int .i64 2]) ∧ Below w.heap.size w w') := Lib.hid fun w => refLimits_any ⟨#[82, 79, 85, 78, 68, 68, 79, 87, 78]⟩ 1 2 w (by decide +kernel)
  have HX := Lib.hid fun w => refTrunc_any a 0 w ha
  have HC : Hid (∀ w, Calls Tryz.prog 63 #[.int .i64 (Tab.truncS a 0)] w fun e w' => e = .returned (.agg #[.int .i64 ya, .int .i64 yb, .string yc]) ∧ Below w.heap.size w w') := Lib.hid fun w => by
    have := refNum_any (Tab.truncS a 0) w
    rw [hv, ev] at this
    exact this
  rw [ev]
  clear hv ev
  generalize Tab.truncS a 0 = t at *
  have HA := Lib.hid hA
  have HS := Lib.hid hs
  have HN := Lib.hid hlen
  have HR := Lib.hid hnum
  clear hA hs hlen hnum
  go_enter Tryz.func15, Tryz.ntmps15
  go_wp2_with (first | (go_at_call 39; fail))
  go_at_call 39
  refine (HL.out _).mono ?_
  rintro e w1 ⟨rfl, hb1⟩
  go_wp2
  have hb2 : Below (w.alloc (.cells #[.int .i64 0, .int .i64 0, .string { data := #[] }] 28)).heap.size (w.alloc (.cells #[.int .i64 0, .int .i64 0, .string { data := #[] }] 28)) (w1.alloc (.cells #[] 2)) := hb1.alloc hb1.size _
  have HB2 := Lib.hid hb2
  have ho0 := Lib.hid (owns_empty2 w1)
  have hs1 : Hid ((w.alloc (.cells #[.int .i64 0, .int .i64 0, .string { data := #[] }] 28)).heap.size ≤ w1.heap.size) := Lib.hid hb1.size
  have hs2 : Hid (w1.heap.size ≤ (w1.alloc (.cells #[] 2)).heap.size) := Lib.hid (by simp)
  clear hb1 hb2
  generalize w1.alloc (.cells #[] 2) = w2 at *
  go_loopw [7, 39] (fun vl vi wr => ∃ (k : Nat) (acc : List Int), vi = .int .i64 k ∧ k ≤ 1 ∧ Hid (acc.length = k) ∧ Hid (wr.ownsRow w1.heap.size 2 1 vl acc.length (acc.map (Value.int .i64))) ∧ Hid (nums (vs.drop k) acc = ([a], 0)) ∧ Hid (Below (w.alloc (.cells #[.int .i64 0, .int .i64 0, .string { data := #[] }] 28)).heap.size (w.alloc (.cells #[.int .i64 0, .int .i64 0, .string { data := #[] }] 28)) wr) ∧ Hid (w1.heap.size ≤ wr.heap.size)) (fun _ vi _ => 1 - (RowKit.intOf vi).toNat)
  case atStart => exact ⟨0, [], rfl, by omega, Lib.hid rfl, ho0, Lib.hid (by rw [List.drop_zero]; exact HR.out), HB2, hs2⟩
  case round =>
    obtain ⟨k, acc, rfl, hk, hlen, hown, hinv, hbl, hwz⟩ := hrel
    clear ho0 HB2 hs2
    by_cases hkn : k < 1
    · obtain ⟨u, hu⟩ : ∃ u, vs[k]? = some u := ⟨vs[k]'(by rw [HN.out]; exact hkn), List.getElem?_eq_getElem _⟩
      obtain ⟨ku, nu, su, eu⟩ := tell_form u
      have hA2 := (HA.out.below (w' := (w.alloc (.cells #[.int .i64 0, .int .i64 0, .string { data := #[] }] 28))) ((Below.refl _ _).alloc (Nat.le_refl _) _)).below hbl.out
      obtain ⟨hc0, hc1, hc2⟩ := hA2.2 k u ku nu su hu eu
      obtain ⟨nn, f, hf⟩ : ∃ nn f, u.asNum = (nn, f) := ⟨_, _, rfl⟩
      have hdr : vs.drop k = u :: vs.drop (k + 1) := by
        obtain ⟨e1, e2⟩ := List.getElem?_eq_some_iff.1 hu
        rw [List.drop_eq_getElem_cons e1, e2]
      have hi2 := hinv.out
      rw [hdr, nums_cons _ _ _ _ _ hf] at hi2
      have hf0 : f = 0 := by
        by_cases h : f = 0
        · exact h
        · rw [if_neg h] at hi2; simp at hi2
      subst hf0
      rw [if_pos rfl] at hi2
      have HAN := Lib.hid fun w => refAsNumber_any u nn 0 w (short_at HS.out hu) hf
      rw [eu] at HAN
      have HN2 := Lib.hid hi2
      have hkz : k ≤ 1000 := by omega
      clear hi2 hdr hf hu eu hinv hA2
      go_wp2_with (first | (go_at_call 62; fail))
      go_at_call 62
      refine (HAN.out _).mono ?_
      rintro e w3 ⟨rfl, hb3⟩
      have hr3 : Below wr.heap.size wr w3 := ((Below.refl _ _).alloc (Nat.le_refl _) _).trans (hb3.mono (by simp))
      have hb03 := hbl.out.trans (hr3.mono hbl.out.size)
      have hown3 := Lib.hid (owns_below hown.out hr3)
      have hsz3 := hr3.size
      have HL2 := Lib.hid (show acc.length + 1 ≤ 2000 by have := hlen.out; omega)
      have hwz3 : Hid (w1.heap.size ≤ w3.heap.size) := Lib.hid (Nat.le_trans hwz.out hsz3)
      clear hr3 hb3 hc0 hc1 hc2 hown hbl HAN
      go_wp2_with (first | (at_builtin; refine wpList_append_own _ rfl _ _ 102 rfl w1.heap.size 2 i0 (.int .i64 0) 1 8 Tryz.underlying102 hi hz0 hz1 hz2 rfl (by decide) _ _ _ rfl (hown3.out.alloc _) ⟨w3.heap.size, 0, none⟩ 1 1 [.int .i64 nn] rfl rfl ?c1 ?c2 ?c3 ?c4 ?c5 ?_))
      case c1 => exact news_one _ _ _
      case c2 => intro u hu; simp at hu; subst hu; rfl
      case c3 => have := HL2.out; unfold maxLen; omega
      case c4 => have := HL2.out; omega
      case c5 => have := hwz3.out; simp; omega
      · intro v' w4 hown4 hgrow4 _
        have hb04 := Lib.hid ((hb03.alloc hb03.size _).grown hgrow4 (by simp; have := hb03.size; simp at this; omega) (fun k hk => Nat.le_trans hs1.out (owns_row hown3.out k hk)))
        have HO := Lib.hid hown4
        have hwz4 : Hid (w1.heap.size ≤ w4.heap.size) := Lib.hid (by have := hgrow4.size; have := hwz3.out; simp at *; omega)
        clear hown4 hgrow4 hb03 hown3
        go_wp2
        go_roundw
        case rel => exact ⟨k + 1, acc ++ [nn], rfl, by omega, Lib.hid (by simp [hlen.out]), Lib.hid (by simpa using HO.out), HN2, hb04, hwz4⟩
        case measure => simp [RowKit.intOf]; omega
    · obtain rfl : k = 1 := by omega
      have hac : acc = [a] := by
        have := hinv.out
        rw [List.drop_of_length_le (by rw [HN.out]; exact Nat.le_refl _)] at this
        simpa [nums] using this
      subst hac
      have ho := hown.out
      obtain ⟨g1, cap1, rfl, _, _⟩ := ho.form (by simp)
      have hc0 : wr.cell? ⟨g1, 0, none⟩ = some (.int .i64 a) := ho.cellAt 0 (by simp)
      have hbw := hbl.out
      clear ho hown hinv hbl hwz hlen HR HN HS HA hkn
      simp only [List.length_cons, List.length_nil, Nat.reduceAdd]
      go_wp2_with (first | (go_at_call 67; fail))
      go_at_call 67
      refine (HX.out _).mono ?_
      rintro e w3 ⟨rfl, hbx⟩
      have hb3 := hbw.trans (hbx.mono hbw.size)
      clear hbx hbw
      go_wp2_with (first | (go_at_call 63; fail))
      go_at_call 63
      refine (HC.out _).mono ?_
      rintro e w4 ⟨rfl, hbx⟩
      have hb4 := hb3.trans (hbx.mono hb3.size)
      clear hbx hb3
      obtain ⟨hc', hf', hlt', hb0⟩ := out_ready hb4
      go_wp2
      obtain ⟨e0, e1, e2⟩ := set_three w4 w.heap.size (.int .i64 ya) (.int .i64 yb) (.string yc) (hc' 0) (hc' 1) (hc' 2)
      have hbf := set_below hb0 (.int .i64 ya) (.int .i64 yb) (.string yc)
      generalize (((w4.setCell ⟨w.heap.size, 0, none⟩ (.int .i64 ya)).setCell ⟨w.heap.size, 1, none⟩ (.int .i64 yb)).setCell ⟨w.heap.size, 2, none⟩ (.string yc)) = wf at *
      refine bodyPost_ret (v := .agg #[.int .i64 ya, .int .i64 yb, .string yc]) (by simp [results, Tryz.results15, go_sem, e0, e1, e2]) rfl ?_
      exact ⟨rfl, hbf⟩
set_option maxHeartbeats 3200000 in
set_option maxRecDepth 100000 in
theorem refCall_ROUND1 (vs : List V) (g cap : Nat) (a : Int) (v : V) (w : World) (hA : TellsAt w g vs) (hs : ∀ v ∈ vs, v.short 4294967) (hlen : vs.length = 1) (hnum : nums vs [] = ([a], 0)) (ha : -999999999999999999 ≤ a ∧ a ≤ 999999999999999999) (hv : cnt (Tab.roundS a 0) = v) :
    Calls Tryz.prog 15 #[.string ⟨#[82, 79, 85, 78, 68]⟩, .slice (some ⟨g, 0, none⟩) 1 cap] w fun e w' => e = .returned v.tell ∧ Below w.heap.size w w' := by
  obtain ⟨i0, hi, hz0, hz1, hz2⟩ := info_parts info2i
  obtain ⟨ya, yb, yc, ev⟩ := tell_form v
  have HL : Hid (∀ w, Calls Tryz.prog 39 #[.string ⟨#[82, 79, 85, 78, 68]⟩] w fun e w' => e = .returned (.tuple #[.int .i64 1, .int .i64 2]) ∧ Below w.heap.size w w') := Lib.hid fun w => refLimits_any ⟨#[82, 79, 85, 78, 68]⟩ 1 2 w (by decide +kernel)
  have HX := Lib.hid fun w => refRound_any a 0 w ha
  obtain ⟨m, ok, hm⟩ : ∃ m ok, Tab.roundS a 0 = (m, ok) := ⟨_, _, rfl⟩
  rw [hm] at hv
  have HC := Lib.hid fun w => refCounted_any m ok v w hv
  rw [ev] at HC ⊢
  clear hv ev
  rw [hm] at HX
  clear hm
  have HA := Lib.hid hA
  have HS := Lib.hid hs
  have HN := Lib.hid hlen
  have HR := Lib.hid hnum
  clear hA hs hlen hnum
  go_enter Tryz.func15, Tryz.ntmps15
  go_wp2_with (first | (go_at_call 39; fail))
  go_at_call 39
  refine (HL.out _).mono ?_
  rintro e w1 ⟨rfl, hb1⟩
  go_wp2
  have hb2 : Below (w.alloc (.cells #[.int .i64 0, .int .i64 0, .string { data := #[] }] 28)).heap.size (w.alloc (.cells #[.int .i64 0, .int .i64 0, .string { data := #[] }] 28)) (w1.alloc (.cells #[] 2)) := hb1.alloc hb1.size _
  have HB2 := Lib.hid hb2
  have ho0 := Lib.hid (owns_empty2 w1)
  have hs1 : Hid ((w.alloc (.cells #[.int .i64 0, .int .i64 0, .string { data := #[] }] 28)).heap.size ≤ w1.heap.size) := Lib.hid hb1.size
  have hs2 : Hid (w1.heap.size ≤ (w1.alloc (.cells #[] 2)).heap.size) := Lib.hid (by simp)
  clear hb1 hb2
  generalize w1.alloc (.cells #[] 2) = w2 at *
  go_loopw [7, 39] (fun vl vi wr => ∃ (k : Nat) (acc : List Int), vi = .int .i64 k ∧ k ≤ 1 ∧ Hid (acc.length = k) ∧ Hid (wr.ownsRow w1.heap.size 2 1 vl acc.length (acc.map (Value.int .i64))) ∧ Hid (nums (vs.drop k) acc = ([a], 0)) ∧ Hid (Below (w.alloc (.cells #[.int .i64 0, .int .i64 0, .string { data := #[] }] 28)).heap.size (w.alloc (.cells #[.int .i64 0, .int .i64 0, .string { data := #[] }] 28)) wr) ∧ Hid (w1.heap.size ≤ wr.heap.size)) (fun _ vi _ => 1 - (RowKit.intOf vi).toNat)
  case atStart => exact ⟨0, [], rfl, by omega, Lib.hid rfl, ho0, Lib.hid (by rw [List.drop_zero]; exact HR.out), HB2, hs2⟩
  case round =>
    obtain ⟨k, acc, rfl, hk, hlen, hown, hinv, hbl, hwz⟩ := hrel
    clear ho0 HB2 hs2
    by_cases hkn : k < 1
    · obtain ⟨u, hu⟩ : ∃ u, vs[k]? = some u := ⟨vs[k]'(by rw [HN.out]; exact hkn), List.getElem?_eq_getElem _⟩
      obtain ⟨ku, nu, su, eu⟩ := tell_form u
      have hA2 := (HA.out.below (w' := (w.alloc (.cells #[.int .i64 0, .int .i64 0, .string { data := #[] }] 28))) ((Below.refl _ _).alloc (Nat.le_refl _) _)).below hbl.out
      obtain ⟨hc0, hc1, hc2⟩ := hA2.2 k u ku nu su hu eu
      obtain ⟨nn, f, hf⟩ : ∃ nn f, u.asNum = (nn, f) := ⟨_, _, rfl⟩
      have hdr : vs.drop k = u :: vs.drop (k + 1) := by
        obtain ⟨e1, e2⟩ := List.getElem?_eq_some_iff.1 hu
        rw [List.drop_eq_getElem_cons e1, e2]
      have hi2 := hinv.out
      rw [hdr, nums_cons _ _ _ _ _ hf] at hi2
      have hf0 : f = 0 := by
        by_cases h : f = 0
        · exact h
        · rw [if_neg h] at hi2; simp at hi2
      subst hf0
      rw [if_pos rfl] at hi2
      have HAN := Lib.hid fun w => refAsNumber_any u nn 0 w (short_at HS.out hu) hf
      rw [eu] at HAN
      have HN2 := Lib.hid hi2
      have hkz : k ≤ 1000 := by omega
      clear hi2 hdr hf hu eu hinv hA2
      go_wp2_with (first | (go_at_call 62; fail))
      go_at_call 62
      refine (HAN.out _).mono ?_
      rintro e w3 ⟨rfl, hb3⟩
      have hr3 : Below wr.heap.size wr w3 := ((Below.refl _ _).alloc (Nat.le_refl _) _).trans (hb3.mono (by simp))
      have hb03 := hbl.out.trans (hr3.mono hbl.out.size)
      have hown3 := Lib.hid (owns_below hown.out hr3)
      have hsz3 := hr3.size
      have HL2 := Lib.hid (show acc.length + 1 ≤ 2000 by have := hlen.out; omega)
      have hwz3 : Hid (w1.heap.size ≤ w3.heap.size) := Lib.hid (Nat.le_trans hwz.out hsz3)
      clear hr3 hb3 hc0 hc1 hc2 hown hbl HAN
      go_wp2_with (first | (at_builtin; refine wpList_append_own _ rfl _ _ 102 rfl w1.heap.size 2 i0 (.int .i64 0) 1 8 Tryz.underlying102 hi hz0 hz1 hz2 rfl (by decide) _ _ _ rfl (hown3.out.alloc _) ⟨w3.heap.size, 0, none⟩ 1 1 [.int .i64 nn] rfl rfl ?c1 ?c2 ?c3 ?c4 ?c5 ?_))
      case c1 => exact news_one _ _ _
      case c2 => intro u hu; simp at hu; subst hu; rfl
      case c3 => have := HL2.out; unfold maxLen; omega
      case c4 => have := HL2.out; omega
      case c5 => have := hwz3.out; simp; omega
      · intro v' w4 hown4 hgrow4 _
        have hb04 := Lib.hid ((hb03.alloc hb03.size _).grown hgrow4 (by simp; have := hb03.size; simp at this; omega) (fun k hk => Nat.le_trans hs1.out (owns_row hown3.out k hk)))
        have HO := Lib.hid hown4
        have hwz4 : Hid (w1.heap.size ≤ w4.heap.size) := Lib.hid (by have := hgrow4.size; have := hwz3.out; simp at *; omega)
        clear hown4 hgrow4 hb03 hown3
        go_wp2
        go_roundw
        case rel => exact ⟨k + 1, acc ++ [nn], rfl, by omega, Lib.hid (by simp [hlen.out]), Lib.hid (by simpa using HO.out), HN2, hb04, hwz4⟩
        case measure => simp [RowKit.intOf]; omega
    · obtain rfl : k = 1 := by omega
      have hac : acc = [a] := by
        have := hinv.out
        rw [List.drop_of_length_le (by rw [HN.out]; exact Nat.le_refl _)] at this
        simpa [nums] using this
      subst hac
      have ho := hown.out
      obtain ⟨g1, cap1, rfl, _, _⟩ := ho.form (by simp)
      have hc0 : wr.cell? ⟨g1, 0, none⟩ = some (.int .i64 a) := ho.cellAt 0 (by simp)
      have hbw := hbl.out
      clear ho hown hinv hbl hwz hlen HR HN HS HA hkn
      simp only [List.length_cons, List.length_nil, Nat.reduceAdd]
      go_wp2_with (first | (go_at_call 68; fail))
      go_at_call 68
      refine (HX.out _).mono ?_
      rintro e w3 ⟨rfl, hbx⟩
      have hb3 := hbw.trans (hbx.mono hbw.size)
      clear hbx hbw
      go_wp2_with (first | (go_at_call 65; fail))
      go_at_call 65
      refine (HC.out _).mono ?_
      rintro e w4 ⟨rfl, hbx⟩
      have hb4 := hb3.trans (hbx.mono hb3.size)
      clear hbx hb3
      obtain ⟨hc', hf', hlt', hb0⟩ := out_ready hb4
      go_wp2
      obtain ⟨e0, e1, e2⟩ := set_three w4 w.heap.size (.int .i64 ya) (.int .i64 yb) (.string yc) (hc' 0) (hc' 1) (hc' 2)
      have hbf := set_below hb0 (.int .i64 ya) (.int .i64 yb) (.string yc)
      generalize (((w4.setCell ⟨w.heap.size, 0, none⟩ (.int .i64 ya)).setCell ⟨w.heap.size, 1, none⟩ (.int .i64 yb)).setCell ⟨w.heap.size, 2, none⟩ (.string yc)) = wf at *
      refine bodyPost_ret (v := .agg #[.int .i64 ya, .int .i64 yb, .string yc]) (by simp [results, Tryz.results15, go_sem, e0, e1, e2]) rfl ?_
      exact ⟨rfl, hbf⟩
set_option maxHeartbeats 3200000 in
set_option maxRecDepth 100000 in
theorem refCall_ROUNDUP1 (vs : List V) (g cap : Nat) (a : Int) (v : V) (w : World) (hA : TellsAt w g vs) (hs : ∀ v ∈ vs, v.short 4294967) (hlen : vs.length = 1) (hnum : nums vs [] = ([a], 0)) (ha : -999999999999999999 ≤ a ∧ a ≤ 999999999999999999) (hv : awayW a 0 = v) :
    Calls Tryz.prog 15 #[.string ⟨#[82, 79, 85, 78, 68, 85, 80]⟩, .slice (some ⟨g, 0, none⟩) 1 cap] w fun e w' => e = .returned v.tell ∧ Below w.heap.size w w' := by
  obtain ⟨i0, hi, hz0, hz1, hz2⟩ := info_parts info2i
  obtain ⟨ya, yb, yc, ev⟩ := tell_form v
  have HL : Hid (∀ w, Calls Tryz.prog 39 #[.string ⟨#[82, 79, 85, 78, 68, 85, 80]⟩] w fun e w' => e = .returned (.tuple #[.int .i64 1, .int .i64 2]) ∧ Below w.heap.size w w') := Lib.hid fun w => refLimits_any ⟨#[82, 79, 85, 78, 68, 85, 80]⟩ 1 2 w (by decide +kernel)
  have HC := Lib.hid fun w => refUp_any a 0 v w ha (by omega) hv
  rw [ev] at HC ⊢
  clear hv ev
  have HA := Lib.hid hA
  have HS := Lib.hid hs
  have HN := Lib.hid hlen
  have HR := Lib.hid hnum
  clear hA hs hlen hnum
  go_enter Tryz.func15, Tryz.ntmps15
  go_wp2_with (first | (go_at_call 39; fail))
  go_at_call 39
  refine (HL.out _).mono ?_
  rintro e w1 ⟨rfl, hb1⟩
  go_wp2
  have hb2 : Below (w.alloc (.cells #[.int .i64 0, .int .i64 0, .string { data := #[] }] 28)).heap.size (w.alloc (.cells #[.int .i64 0, .int .i64 0, .string { data := #[] }] 28)) (w1.alloc (.cells #[] 2)) := hb1.alloc hb1.size _
  have HB2 := Lib.hid hb2
  have ho0 := Lib.hid (owns_empty2 w1)
  have hs1 : Hid ((w.alloc (.cells #[.int .i64 0, .int .i64 0, .string { data := #[] }] 28)).heap.size ≤ w1.heap.size) := Lib.hid hb1.size
  have hs2 : Hid (w1.heap.size ≤ (w1.alloc (.cells #[] 2)).heap.size) := Lib.hid (by simp)
  clear hb1 hb2
  generalize w1.alloc (.cells #[] 2) = w2 at *
  go_loopw [7, 39] (fun vl vi wr => ∃ (k : Nat) (acc : List Int), vi = .int .i64 k ∧ k ≤ 1 ∧ Hid (acc.length = k) ∧ Hid (wr.ownsRow w1.heap.size 2 1 vl acc.length (acc.map (Value.int .i64))) ∧ Hid (nums (vs.drop k) acc = ([a], 0)) ∧ Hid (Below (w.alloc (.cells #[.int .i64 0, .int .i64 0, .string { data := #[] }] 28)).heap.size (w.alloc (.cells #[.int .i64 0, .int .i64 0, .string { data := #[] }] 28)) wr) ∧ Hid (w1.heap.size ≤ wr.heap.size)) (fun _ vi _ => 1 - (RowKit.intOf vi).toNat)
  case atStart => exact ⟨0, [], rfl, by omega, Lib.hid rfl, ho0, Lib.hid (by rw [List.drop_zero]; exact HR.out), HB2, hs2⟩
  case round =>
    obtain ⟨k, acc, rfl, hk, hlen, hown, hinv, hbl, hwz⟩ := hrel
    clear ho0 HB2 hs2
    by_cases hkn : k < 1
    · obtain ⟨u, hu⟩ : ∃ u, vs[k]? = some u := ⟨vs[k]'(by rw [HN.out]; exact hkn), List.getElem?_eq_getElem _⟩
      obtain ⟨ku, nu, su, eu⟩ := tell_form u
      have hA2 := (HA.out.below (w' := (w.alloc (.cells #[.int .i64 0, .int .i64 0, .string { data := #[] }] 28))) ((Below.refl _ _).alloc (Nat.le_refl _) _)).below hbl.out
      obtain ⟨hc0, hc1, hc2⟩ := hA2.2 k u ku nu su hu eu
      obtain ⟨nn, f, hf⟩ : ∃ nn f, u.asNum = (nn, f) := ⟨_, _, rfl⟩
      have hdr : vs.drop k = u :: vs.drop (k + 1) := by
        obtain ⟨e1, e2⟩ := List.getElem?_eq_some_iff.1 hu
        rw [List.drop_eq_getElem_cons e1, e2]
      have hi2 := hinv.out
      rw [hdr, nums_cons _ _ _ _ _ hf] at hi2
      have hf0 : f = 0 := by
        by_cases h : f = 0
        · exact h
        · rw [if_neg h] at hi2; simp at hi2
      subst hf0
      rw [if_pos rfl] at hi2
      have HAN := Lib.hid fun w => refAsNumber_any u nn 0 w (short_at HS.out hu) hf
      rw [eu] at HAN
      have HN2 := Lib.hid hi2
      have hkz : k ≤ 1000 := by omega
      clear hi2 hdr hf hu eu hinv hA2
      go_wp2_with (first | (go_at_call 62; fail))
      go_at_call 62
      refine (HAN.out _).mono ?_
      rintro e w3 ⟨rfl, hb3⟩
      have hr3 : Below wr.heap.size wr w3 := ((Below.refl _ _).alloc (Nat.le_refl _) _).trans (hb3.mono (by simp))
      have hb03 := hbl.out.trans (hr3.mono hbl.out.size)
      have hown3 := Lib.hid (owns_below hown.out hr3)
      have hsz3 := hr3.size
      have HL2 := Lib.hid (show acc.length + 1 ≤ 2000 by have := hlen.out; omega)
      have hwz3 : Hid (w1.heap.size ≤ w3.heap.size) := Lib.hid (Nat.le_trans hwz.out hsz3)
      clear hr3 hb3 hc0 hc1 hc2 hown hbl HAN
      go_wp2_with (first | (at_builtin; refine wpList_append_own _ rfl _ _ 102 rfl w1.heap.size 2 i0 (.int .i64 0) 1 8 Tryz.underlying102 hi hz0 hz1 hz2 rfl (by decide) _ _ _ rfl (hown3.out.alloc _) ⟨w3.heap.size, 0, none⟩ 1 1 [.int .i64 nn] rfl rfl ?c1 ?c2 ?c3 ?c4 ?c5 ?_))
      case c1 => exact news_one _ _ _
      case c2 => intro u hu; simp at hu; subst hu; rfl
      case c3 => have := HL2.out; unfold maxLen; omega
      case c4 => have := HL2.out; omega
      case c5 => have := hwz3.out; simp; omega
      · intro v' w4 hown4 hgrow4 _
        have hb04 := Lib.hid ((hb03.alloc hb03.size _).grown hgrow4 (by simp; have := hb03.size; simp at this; omega) (fun k hk => Nat.le_trans hs1.out (owns_row hown3.out k hk)))
        have HO := Lib.hid hown4
        have hwz4 : Hid (w1.heap.size ≤ w4.heap.size) := Lib.hid (by have := hgrow4.size; have := hwz3.out; simp at *; omega)
        clear hown4 hgrow4 hb03 hown3
        go_wp2
        go_roundw
        case rel => exact ⟨k + 1, acc ++ [nn], rfl, by omega, Lib.hid (by simp [hlen.out]), Lib.hid (by simpa using HO.out), HN2, hb04, hwz4⟩
        case measure => simp [RowKit.intOf]; omega
    · obtain rfl : k = 1 := by omega
      have hac : acc = [a] := by
        have := hinv.out
        rw [List.drop_of_length_le (by rw [HN.out]; exact Nat.le_refl _)] at this
        simpa [nums] using this
      subst hac
      have ho := hown.out
      obtain ⟨g1, cap1, rfl, _, _⟩ := ho.form (by simp)
      have hc0 : wr.cell? ⟨g1, 0, none⟩ = some (.int .i64 a) := ho.cellAt 0 (by simp)
      have hbw := hbl.out
      clear ho hown hinv hbl hwz hlen HR HN HS HA hkn
      simp only [List.length_cons, List.length_nil, Nat.reduceAdd]
      go_wp2_with (first | (go_at_call 69; fail))
      go_at_call 69
      refine (HC.out _).mono ?_
      rintro e w3 ⟨rfl, hbx⟩
      have hb3 := hbw.trans (hbx.mono hbw.size)
      clear hbx hbw
      obtain ⟨hc', hf', hlt', hb0⟩ := out_ready hb3
      go_wp2
      obtain ⟨e0, e1, e2⟩ := set_three w3 w.heap.size (.int .i64 ya) (.int .i64 yb) (.string yc) (hc' 0) (hc' 1) (hc' 2)
      have hbf := set_below hb0 (.int .i64 ya) (.int .i64 yb) (.string yc)
      generalize (((w3.setCell ⟨w.heap.size, 0, none⟩ (.int .i64 ya)).setCell ⟨w.heap.size, 1, none⟩ (.int .i64 yb)).setCell ⟨w.heap.size, 2, none⟩ (.string yc)) = wf at *
      refine bodyPost_ret (v := .agg #[.int .i64 ya, .int .i64 yb, .string yc]) (by simp [results, Tryz.results15, go_sem, e0, e1, e2]) rfl ?_
      exact ⟨rfl, hbf⟩
set_option maxHeartbeats 3200000 in
set_option maxRecDepth 100000 in
theorem refCall_FLOOR1 (vs : List V) (g cap : Nat) (a : Int) (v : V) (w : World) (hA : TellsAt w g vs) (hs : ∀ v ∈ vs, v.short 4294967) (hlen : vs.length = 1) (hnum : nums vs [] = ([a], 0)) (ha : -999999999999999999 ≤ a ∧ a ≤ 999999999999999999) (hv : cnt (Tab.fit (a - a % 10000)) = v) :
    Calls Tryz.prog 15 #[.string ⟨#[70, 76, 79, 79, 82]⟩, .slice (some ⟨g, 0, none⟩) 1 cap] w fun e w' => e = .returned v.tell ∧ Below w.heap.size w w' := by
  obtain ⟨i0, hi, hz0, hz1, hz2⟩ := info_parts info2i
  obtain ⟨ya, yb, yc, ev⟩ := tell_form v
  have HL : Hid (∀ w, Calls Tryz.prog 39 #[.string ⟨#[70, 76, 79, 79, 82]⟩] w fun e w' => e = .returned (.tuple #[.int .i64 1, .int .i64 2]) ∧ Below w.heap.size w w') := Lib.hid fun w => refLimits_any ⟨#[70, 76, 79, 79, 82]⟩ 1 2 w (by decide +kernel)
  have HX : Hid (∀ w, Calls Tryz.prog 66 #[.int .i64 a, .int .i64 10000] w fun e w' => e = .returned (.tuple #[.int .i64 (Tab.fit (a - a % 10000)).1, .bool (Tab.fit (a - a % 10000)).2]) ∧ w = w') := Lib.hid fun w => refFloor_any a 10000 w ha (by omega)
  obtain ⟨m, ok, hm⟩ : ∃ m ok, Tab.fit (a - a % 10000) = (m, ok) := ⟨_, _, rfl⟩
  rw [hm] at hv
  have HC := Lib.hid fun w => refCounted_any m ok v w hv
  rw [ev] at HC ⊢
  clear hv ev
  rw [hm] at HX
  clear hm
  have HA := Lib.hid hA
  have HS := Lib.hid hs
  have HN := Lib.hid hlen
  have HR := Lib.hid hnum
  clear hA hs hlen hnum
  go_enter Tryz.func15, Tryz.ntmps15
  go_wp2_with (first | (go_at_call 39; fail))
  go_at_call 39
  refine (HL.out _).mono ?_
  rintro e w1 ⟨rfl, hb1⟩
  go_wp2
  have hb2 : Below (w.alloc (.cells #[.int .i64 0, .int .i64 0, .string { data := #[] }] 28)).heap.size (w.alloc (.cells #[.int .i64 0, .int .i64 0, .string { data := #[] }] 28)) (w1.alloc (.cells #[] 2)) := hb1.alloc hb1.size _
  have HB2 := Lib.hid hb2
  have ho0 := Lib.hid (owns_empty2 w1)
  have hs1 : Hid ((w.alloc (.cells #[.int .i64 0, .int .i64 0, .string { data := #[] }] 28)).heap.size ≤ w1.heap.size) := Lib.hid hb1.size
  have hs2 : Hid (w1.heap.size ≤ (w1.alloc (.cells #[] 2)).heap.size) := Lib.hid (by simp)
  clear hb1 hb2
  generalize w1.alloc (.cells #[] 2) = w2 at *
  go_loopw [7, 39] (fun vl vi wr => ∃ (k : Nat) (acc : List Int), vi = .int .i64 k ∧ k ≤ 1 ∧ Hid (acc.length = k) ∧ Hid (wr.ownsRow w1.heap.size 2 1 vl acc.length (acc.map (Value.int .i64))) ∧ Hid (nums (vs.drop k) acc = ([a], 0)) ∧ Hid (Below (w.alloc (.cells #[.int .i64 0, .int .i64 0, .string { data := #[] }] 28)).heap.size (w.alloc (.cells #[.int .i64 0, .int .i64 0, .string { data := #[] }] 28)) wr) ∧ Hid (w1.heap.size ≤ wr.heap.size)) (fun _ vi _ => 1 - (RowKit.intOf vi).toNat)
  case atStart => exact ⟨0, [], rfl, by omega, Lib.hid rfl, ho0, Lib.hid (by rw [List.drop_zero]; exact HR.out), HB2, hs2⟩
  case round =>
    obtain ⟨k, acc, rfl, hk, hlen, hown, hinv, hbl, hwz⟩ := hrel
    clear ho0 HB2 hs2
    by_cases hkn : k < 1
    · obtain ⟨u, hu⟩ : ∃ u, vs[k]? = some u := ⟨vs[k]'(by rw [HN.out]; exact hkn), List.getElem?_eq_getElem _⟩
      obtain ⟨ku, nu, su, eu⟩ := tell_form u
      have hA2 := (HA.out.below (w' := (w.alloc (.cells #[.int .i64 0, .int .i64 0, .string { data := #[] }] 28))) ((Below.refl _ _).alloc (Nat.le_refl _) _)).below hbl.out
      obtain ⟨hc0, hc1, hc2⟩ := hA2.2 k u ku nu su hu eu
      obtain ⟨nn, f, hf⟩ : ∃ nn f, u.asNum = (nn, f) := ⟨_, _, rfl⟩
      have hdr : vs.drop k = u :: vs.drop (k + 1) := by
        obtain ⟨e1, e2⟩ := List.getElem?_eq_some_iff.1 hu
        rw [List.drop_eq_getElem_cons e1, e2]
      have hi2 := hinv.out
      rw [hdr, nums_cons _ _ _ _ _ hf] at hi2
      have hf0 : f = 0 := by
        by_cases h : f = 0
        · exact h
        · rw [if_neg h] at hi2; simp at hi2
      subst hf0
      rw [if_pos rfl] at hi2
      have HAN := Lib.hid fun w => refAsNumber_any u nn 0 w (short_at HS.out hu) hf
      rw [eu] at HAN
      have HN2 := Lib.hid hi2
      have hkz : k ≤ 1000 := by omega
      clear hi2 hdr hf hu eu hinv hA2
      go_wp2_with (first | (go_at_call 62; fail))
      go_at_call 62
      refine (HAN.out _).mono ?_
      rintro e w3 ⟨rfl, hb3⟩
      have hr3 : Below wr.heap.size wr w3 := ((Below.refl _ _).alloc (Nat.le_refl _) _).trans (hb3.mono (by simp))
      have hb03 := hbl.out.trans (hr3.mono hbl.out.size)
      have hown3 := Lib.hid (owns_below hown.out hr3)
      have hsz3 := hr3.size
      have HL2 := Lib.hid (show acc.length + 1 ≤ 2000 by have := hlen.out; omega)
      have hwz3 : Hid (w1.heap.size ≤ w3.heap.size) := Lib.hid (Nat.le_trans hwz.out hsz3)
      clear hr3 hb3 hc0 hc1 hc2 hown hbl HAN
      go_wp2_with (first | (at_builtin; refine wpList_append_own _ rfl _ _ 102 rfl w1.heap.size 2 i0 (.int .i64 0) 1 8 Tryz.underlying102 hi hz0 hz1 hz2 rfl (by decide) _ _ _ rfl (hown3.out.alloc _) ⟨w3.heap.size, 0, none⟩ 1 1 [.int .i64 nn] rfl rfl ?c1 ?c2 ?c3 ?c4 ?c5 ?_))
      case c1 => exact news_one _ _ _
      case c2 => intro u hu; simp at hu; subst hu; rfl
      case c3 => have := HL2.out; unfold maxLen; omega
      case c4 => have := HL2.out; omega
      case c5 => have := hwz3.out; simp; omega
      · intro v' w4 hown4 hgrow4 _
        have hb04 := Lib.hid ((hb03.alloc hb03.size _).grown hgrow4 (by simp; have := hb03.size; simp at this; omega) (fun k hk => Nat.le_trans hs1.out (owns_row hown3.out k hk)))
        have HO := Lib.hid hown4
        have hwz4 : Hid (w1.heap.size ≤ w4.heap.size) := Lib.hid (by have := hgrow4.size; have := hwz3.out; simp at *; omega)
        clear hown4 hgrow4 hb03 hown3
        go_wp2
        go_roundw
        case rel => exact ⟨k + 1, acc ++ [nn], rfl, by omega, Lib.hid (by simp [hlen.out]), Lib.hid (by simpa using HO.out), HN2, hb04, hwz4⟩
        case measure => simp [RowKit.intOf]; omega
    · obtain rfl : k = 1 := by omega
      have hac : acc = [a] := by
        have := hinv.out
        rw [List.drop_of_length_le (by rw [HN.out]; exact Nat.le_refl _)] at this
        simpa [nums] using this
      subst hac
      have ho := hown.out
      obtain ⟨g1, cap1, rfl, _, _⟩ := ho.form (by simp)
      have hc0 : wr.cell? ⟨g1, 0, none⟩ = some (.int .i64 a) := ho.cellAt 0 (by simp)
      have hbw := hbl.out
      clear ho hown hinv hbl hwz hlen HR HN HS HA hkn
      simp only [List.length_cons, List.length_nil, Nat.reduceAdd]
      go_wp2_with (first | (go_at_call 66; refine (HX.out _).mono ?_; rintro e w' ⟨rfl, rfl⟩) | (go_at_call 65; fail))
      go_at_call 65
      refine (HC.out _).mono ?_
      rintro e w3 ⟨rfl, hbx⟩
      have hb3 := hbw.trans (hbx.mono hbw.size)
      clear hbx hbw
      obtain ⟨hc', hf', hlt', hb0⟩ := out_ready hb3
      go_wp2
      obtain ⟨e0, e1, e2⟩ := set_three w3 w.heap.size (.int .i64 ya) (.int .i64 yb) (.string yc) (hc' 0) (hc' 1) (hc' 2)
      have hbf := set_below hb0 (.int .i64 ya) (.int .i64 yb) (.string yc)
      generalize (((w3.setCell ⟨w.heap.size, 0, none⟩ (.int .i64 ya)).setCell ⟨w.heap.size, 1, none⟩ (.int .i64 yb)).setCell ⟨w.heap.size, 2, none⟩ (.string yc)) = wf at *
      refine bodyPost_ret (v := .agg #[.int .i64 ya, .int .i64 yb, .string yc]) (by simp [results, Tryz.results15, go_sem, e0, e1, e2]) rfl ?_
      exact ⟨rfl, hbf⟩
set_option maxHeartbeats 3200000 in
set_option maxRecDepth 100000 in
theorem refCall_CEILING1 (vs : List V) (g cap : Nat) (a : Int) (v : V) (w : World) (hA : TellsAt w g vs) (hs : ∀ v ∈ vs, v.short 4294967) (hlen : vs.length = 1) (hnum : nums vs [] = ([a], 0)) (ha : -999999999999999999 ≤ a ∧ a ≤ 999999999999999999) (hv : cnt (-(Tab.fit (-a - (-a) % 10000)).1, (Tab.fit (-a - (-a) % 10000)).2) = v) :
    Calls Tryz.prog 15 #[.string ⟨#[67, 69, 73, 76, 73, 78, 71]⟩, .slice (some ⟨g, 0, none⟩) 1 cap] w fun e w' => e = .returned v.tell ∧ Below w.heap.size w w' := by
  obtain ⟨i0, hi, hz0, hz1, hz2⟩ := info_parts info2i
  obtain ⟨ya, yb, yc, ev⟩ := tell_form v
  have HL : Hid (∀ w, Calls Tryz.prog 39 #[.string ⟨#[67, 69, 73, 76, 73, 78, 71]⟩] w fun e w' => e = .returned (.tuple #[.int .i64 1, .int .i64 2]) ∧ Below w.heap.size w w') := Lib.hid fun w => refLimits_any ⟨#[67, 69, 73, 76, 73, 78, 71]⟩ 1 2 w (by decide +kernel)
  have HX : Hid (∀ w, Calls Tryz.prog 70 #[.int .i64 a, .int .i64 10000] w fun e w' => e = .returned (.tuple #[.int .i64 (-(Tab.fit (-a - (-a) % 10000)).1), .bool (Tab.fit (-a - (-a) % 10000)).2]) ∧ w = w') := Lib.hid fun w => refCeil_any a 10000 w ha (by omega)
  generalize -(Tab.fit (-a - (-a) % 10000)).1 = m at *
  generalize (Tab.fit (-a - (-a) % 10000)).2 = ok at *
  have HC := Lib.hid fun w => refCounted_any m ok v w hv
  rw [ev] at HC ⊢
  clear hv ev
  have HA := Lib.hid hA
  have HS := Lib.hid hs
  have HN := Lib.hid hlen
  have HR := Lib.hid hnum
  clear hA hs hlen hnum
  go_enter Tryz.func15, Tryz.ntmps15
  go_wp2_with (first | (go_at_call 39; fail))
  go_at_call 39
  refine (HL.out _).mono ?_
  rintro e w1 ⟨rfl, hb1⟩
  go_wp2
  have hb2 : Below (w.alloc (.cells #[.int .i64 0, .int .i64 0, .string { data := #[] }] 28)).heap.size (w.alloc (.cells #[.int .i64 0, .int .i64 0, .string { data := #[] }] 28)) (w1.alloc (.cells #[] 2)) := hb1.alloc hb1.size _
  have HB2 := Lib.hid hb2
  have ho0 := Lib.hid (owns_empty2 w1)
  have hs1 : Hid ((w.alloc (.cells #[.int .i64 0, .int .i64 0, .string { data := #[] }] 28)).heap.size ≤ w1.heap.size) := Lib.hid hb1.size
  have hs2 : Hid (w1.heap.size ≤ (w1.alloc (.cells #[] 2)).heap.size) := Lib.hid (by simp)
  clear hb1 hb2
  generalize w1.alloc (.cells #[] 2) = w2 at *
  go_loopw [7, 39] (fun vl vi wr => ∃ (k : Nat) (acc : List Int), vi = .int .i64 k ∧ k ≤ 1 ∧ Hid (acc.length = k) ∧ Hid (wr.ownsRow w1.heap.size 2 1 vl acc.length (acc.map (Value.int .i64))) ∧ Hid (nums (vs.drop k) acc = ([a], 0)) ∧ Hid (Below (w.alloc (.cells #[.int .i64 0, .int .i64 0, .string { data := #[] }] 28)).heap.size (w.alloc (.cells #[.int .i64 0, .int .i64 0, .string { data := #[] }] 28)) wr) ∧ Hid (w1.heap.size ≤ wr.heap.size)) (fun _ vi _ => 1 - (RowKit.intOf vi).toNat)
  case atStart => exact ⟨0, [], rfl, by omega, Lib.hid rfl, ho0, Lib.hid (by rw [List.drop_zero]; exact HR.out), HB2, hs2⟩
  case round =>
    obtain ⟨k, acc, rfl, hk, hlen, hown, hinv, hbl, hwz⟩ := hrel
    clear ho0 HB2 hs2
    by_cases hkn : k < 1
    · obtain ⟨u, hu⟩ : ∃ u, vs[k]? = some u := ⟨vs[k]'(by rw [HN.out]; exact hkn), List.getElem?_eq_getElem _⟩
      obtain ⟨ku, nu, su, eu⟩ := tell_form u
      have hA2 := (HA.out.below (w' := (w.alloc (.cells #[.int .i64 0, .int .i64 0, .string { data := #[] }] 28))) ((Below.refl _ _).alloc (Nat.le_refl _) _)).below hbl.out
      obtain ⟨hc0, hc1, hc2⟩ := hA2.2 k u ku nu su hu eu
      obtain ⟨nn, f, hf⟩ : ∃ nn f, u.asNum = (nn, f) := ⟨_, _, rfl⟩
      have hdr : vs.drop k = u :: vs.drop (k + 1) := by
        obtain ⟨e1, e2⟩ := List.getElem?_eq_some_iff.1 hu
        rw [List.drop_eq_getElem_cons e1, e2]
      have hi2 := hinv.out
      rw [hdr, nums_cons _ _ _ _ _ hf] at hi2
      have hf0 : f = 0 := by
        by_cases h : f = 0
        · exact h
        · rw [if_neg h] at hi2; simp at hi2
      subst hf0
      rw [if_pos rfl] at hi2
      have HAN := Lib.hid fun w => refAsNumber_any u nn 0 w (short_at HS.out hu) hf
      rw [eu] at HAN
      have HN2 := Lib.hid hi2
      have hkz : k ≤ 1000 := by omega
      clear hi2 hdr hf hu eu hinv hA2
      go_wp2_with (first | (go_at_call 62; fail))
      go_at_call 62
      refine (HAN.out _).mono ?_
      rintro e w3 ⟨rfl, hb3⟩
      have hr3 : Below wr.heap.size wr w3 := ((Below.refl _ _).alloc (Nat.le_refl _) _).trans (hb3.mono (by simp))
      have hb03 := hbl.out.trans (hr3.mono hbl.out.size)
      have hown3 := Lib.hid (owns_below hown.out hr3)
      have hsz3 := hr3.size
      have HL2 := Lib.hid (show acc.length + 1 ≤ 2000 by have := hlen.out; omega)
      have hwz3 : Hid (w1.heap.size ≤ w3.heap.size) := Lib.hid (Nat.le_trans hwz.out hsz3)
      clear hr3 hb3 hc0 hc1 hc2 hown hbl HAN
      go_wp2_with (first | (at_builtin; refine wpList_append_own _ rfl _ _ 102 rfl w1.heap.size 2 i0 (.int .i64 0) 1 8 Tryz.underlying102 hi hz0 hz1 hz2 rfl (by decide) _ _ _ rfl (hown3.out.alloc _) ⟨w3.heap.size, 0, none⟩ 1 1 [.int .i64 nn] rfl rfl ?c1 ?c2 ?c3 ?c4 ?c5 ?_))
      case c1 => exact news_one _ _ _
      case c2 => intro u hu; simp at hu; subst hu; rfl
      case c3 => have := HL2.out; unfold maxLen; omega
      case c4 => have := HL2.out; omega
      case c5 => have := hwz3.out; simp; omega
      · intro v' w4 hown4 hgrow4 _
        have hb04 := Lib.hid ((hb03.alloc hb03.size _).grown hgrow4 (by simp; have := hb03.size; simp at this; omega) (fun k hk => Nat.le_trans hs1.out (owns_row hown3.out k hk)))
        have HO := Lib.hid hown4
        have hwz4 : Hid (w1.heap.size ≤ w4.heap.size) := Lib.hid (by have := hgrow4.size; have := hwz3.out; simp at *; omega)
        clear hown4 hgrow4 hb03 hown3
        go_wp2
        go_roundw
        case rel => exact ⟨k + 1, acc ++ [nn], rfl, by omega, Lib.hid (by simp [hlen.out]), Lib.hid (by simpa using HO.out), HN2, hb04, hwz4⟩
        case measure => simp [RowKit.intOf]; omega
    · obtain rfl : k = 1 := by omega
      have hac : acc = [a] := by
        have := hinv.out
        rw [List.drop_of_length_le (by rw [HN.out]; exact Nat.le_refl _)] at this
        simpa [nums] using this
      subst hac
      have ho := hown.out
      obtain ⟨g1, cap1, rfl, _, _⟩ := ho.form (by simp)
      have hc0 : wr.cell? ⟨g1, 0, none⟩ = some (.int .i64 a) := ho.cellAt 0 (by simp)
      have hbw := hbl.out
      clear ho hown hinv hbl hwz hlen HR HN HS HA hkn
      simp only [List.length_cons, List.length_nil, Nat.reduceAdd]
      go_wp2_with (first | (go_at_call 70; refine (HX.out _).mono ?_; rintro e w' ⟨rfl, rfl⟩) | (go_at_call 65; fail))
      go_at_call 65
      refine (HC.out _).mono ?_
      rintro e w3 ⟨rfl, hbx⟩
      have hb3 := hbw.trans (hbx.mono hbw.size)
      clear hbx hbw
      obtain ⟨hc', hf', hlt', hb0⟩ := out_ready hb3
      go_wp2
      obtain ⟨e0, e1, e2⟩ := set_three w3 w.heap.size (.int .i64 ya) (.int .i64 yb) (.string yc) (hc' 0) (hc' 1) (hc' 2)
      have hbf := set_below hb0 (.int .i64 ya) (.int .i64 yb) (.string yc)
      generalize (((w3.setCell ⟨w.heap.size, 0, none⟩ (.int .i64 ya)).setCell ⟨w.heap.size, 1, none⟩ (.int .i64 yb)).setCell ⟨w.heap.size, 2, none⟩ (.string yc)) = wf at *
      refine bodyPost_ret (v := .agg #[.int .i64 ya, .int .i64 yb, .string yc]) (by simp [results, Tryz.results15, go_sem, e0, e1, e2]) rfl ?_
      exact ⟨rfl, hbf⟩
end Go.Proofs.YtkobkeopajohiaaGreatDoor
