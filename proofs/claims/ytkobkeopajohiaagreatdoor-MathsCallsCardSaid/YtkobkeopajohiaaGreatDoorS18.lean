/-
  FUNCTIONS OF NUMBERS, called by name at any numbers: the reference's Call at two numbers: quotients, powers; at three.
-/
import Derived.Test.YtkobkeopajohiaaGreatDoorS13
namespace Go.Proofs.YtkobkeopajohiaaGreatDoor
open Go.RowKit Go.Lib
set_option maxHeartbeats 3200000 in
set_option maxRecDepth 100000 in
theorem refCall_MROUND2mz (vs : List V) (g cap : Nat) (a b : Int) (v : V) (w : World) (hA : TellsAt w g vs) (hs : ∀ v ∈ vs, v.short 4294967) (hlen : vs.length = 2) (hnum : nums vs [] = ([a, b], 0)) (_ha : -999999999999999999 ≤ a ∧ a ≤ 999999999999999999) (hb : -999999999999999999 ≤ b ∧ b ≤ 999999999999999999) (hsg : a = 0 ∧ b ≠ 0) (hv : cnt (Tab.fit (nearX a.natAbs b.natAbs : Int)) = v) :
    Calls Tryz.prog 15 #[.string ⟨#[77, 82, 79, 85, 78, 68]⟩, .slice (some ⟨g, 0, none⟩) 2 cap] w fun e w' => e = .returned v.tell ∧ Below w.heap.size w w' := by
  have hsg1 : ¬ a < 0 := by omega
  have hsg2 : ¬ 0 < a := by omega
  have hsg3 : b ≠ 0 := hsg.2
  clear hsg
  obtain ⟨i0, hi, hz0, hz1, hz2⟩ := info_parts info2i
  obtain ⟨ya, yb, yc, ev⟩ := tell_form v
  have HL : Hid (∀ w, Calls Tryz.prog 39 #[.string ⟨#[77, 82, 79, 85, 78, 68]⟩] w fun e w' => e = .returned (.tuple #[.int .i64 2, .int .i64 2]) ∧ Below w.heap.size w w') := Lib.hid fun w => refLimits_any ⟨#[77, 82, 79, 85, 78, 68]⟩ 2 2 w (by decide +kernel)
  have HXa := Lib.hid fun w => refSize_any a w (by omega) (by omega)
  have HXb := Lib.hid fun w => refSize_any b w (by omega) (by omega)
  obtain ⟨m, ok, hm⟩ : ∃ m ok, Tab.fit (nearX a.natAbs b.natAbs : Int) = (m, ok) := ⟨_, _, rfl⟩
  have HNr := Lib.hid fun w => refNear_any a.natAbs b.natAbs m ok w (by omega) (by omega) (by omega) hm
  have hmb : -999999999999999999 ≤ m ∧ m ≤ 999999999999999999 := by
    have h := congrArg Prod.fst hm
    unfold Tab.fit at h
    split at h
    · simp at h; omega
    · simp at h; omega
  rw [hm] at hv
  have HC := Lib.hid fun w => refCounted_any (m) ok v w hv
  rw [ev] at HC ⊢
  have hA1 : (a.natAbs : Int) ≤ 999999999999999999 := by omega
  have hB1 : (b.natAbs : Int) ≤ 999999999999999999 := by omega
  have hA0 : 0 ≤ (a.natAbs : Int) := by omega
  have hB0 : 0 ≤ (b.natAbs : Int) := by omega
  obtain ⟨m0, m1⟩ := hmb
  have hbz : (b == 0) = false := by rw [beq_eq_false_iff_ne]; omega
  have da : decide (a < 0) = false := decide_eq_false (by omega)
  have da2 : decide (0 < a) = false := decide_eq_false (by omega)
  clear hv ev hm
  generalize (a.natAbs : Int) = AA at *
  generalize (b.natAbs : Int) = BB at *
  obtain ⟨q, hq⟩ : ∃ q, b.tdiv 10000 = q := ⟨_, rfl⟩
  have hqb := tdiv_bd b 10000 hb
  rw [hq] at hqb
  obtain ⟨q0, q1⟩ := hqb
  have HA := Lib.hid hA
  have HS := Lib.hid hs
  have HN := Lib.hid hlen
  have HR := Lib.hid hnum
  clear hA hs hlen hnum
  go_enter Tryz.func15, Tryz.ntmps15
  go_wp2_with (first | (go_at_call 39; fail))
  go_at_call 39
  refine (HL.out _).mono ?_
  rintro e w1 ⟨rfl, hb1⟩
  go_wp2
  have hb2 : Below (w.alloc (.cells #[.int .i64 0, .int .i64 0, .string { data := #[] }] 28)).heap.size (w.alloc (.cells #[.int .i64 0, .int .i64 0, .string { data := #[] }] 28)) (w1.alloc (.cells #[] 2)) := hb1.alloc hb1.size _
  have HB2 := Lib.hid hb2
  have ho0 := Lib.hid (owns_empty2 w1)
  have hs1 : Hid ((w.alloc (.cells #[.int .i64 0, .int .i64 0, .string { data := #[] }] 28)).heap.size ≤ w1.heap.size) := Lib.hid hb1.size
  have hs2 : Hid (w1.heap.size ≤ (w1.alloc (.cells #[] 2)).heap.size) := Lib.hid (by simp)
  clear hb1 hb2
  generalize w1.alloc (.cells #[] 2) = w2 at *
  go_loopw [7, 39] (fun vl vi wr => ∃ (k : Nat) (acc : List Int), vi = .int .i64 k ∧ k ≤ 2 ∧ Hid (acc.length = k) ∧ Hid (wr.ownsRow w1.heap.size 2 1 vl acc.length (acc.map (Value.int .i64))) ∧ Hid (nums (vs.drop k) acc = ([a, b], 0)) ∧ Hid (Below (w.alloc (.cells #[.int .i64 0, .int .i64 0, .string { data := #[] }] 28)).heap.size (w.alloc (.cells #[.int .i64 0, .int .i64 0, .string { data := #[] }] 28)) wr) ∧ Hid (w1.heap.size ≤ wr.heap.size)) (fun _ vi _ => 2 - (RowKit.intOf vi).toNat)
  case atStart => exact ⟨0, [], rfl, by omega, Lib.hid rfl, ho0, Lib.hid (by rw [List.drop_zero]; exact HR.out), HB2, hs2⟩
  case round =>
    obtain ⟨k, acc, rfl, hk, hlen, hown, hinv, hbl, hwz⟩ := hrel
    clear ho0 HB2 hs2
    by_cases hkn : k < 2
    · obtain ⟨u, hu⟩ : ∃ u, vs[k]? = some u := ⟨vs[k]'(by rw [HN.out]; exact hkn), List.getElem?_eq_getElem _⟩
      obtain ⟨ku, nu, su, eu⟩ := tell_form u
      have hA2 := (HA.out.below (w' := (w.alloc (.cells #[.int .i64 0, .int .i64 0, .string { data := #[] }] 28))) ((Below.refl _ _).alloc (Nat.le_refl _) _)).below hbl.out
      obtain ⟨hc0, hc1, hc2⟩ := hA2.2 k u ku nu su hu eu
      obtain ⟨nn, f, hf⟩ : ∃ nn f, u.asNum = (nn, f) := ⟨_, _, rfl⟩
      have hdr : vs.drop k = u :: vs.drop (k + 1) := by
        obtain ⟨e1, e2⟩ := List.getElem?_eq_some_iff.1 hu
        rw [List.drop_eq_getElem_cons e1, e2]
      have hi2 := hinv.out
      rw [hdr, nums_cons _ _ _ _ _ hf] at hi2
      have hf0 : f = 0 := by
        by_cases h : f = 0
        · exact h
        · rw [if_neg h] at hi2; simp at hi2
      subst hf0
      rw [if_pos rfl] at hi2
      have HAN := Lib.hid fun w => refAsNumber_any u nn 0 w (short_at HS.out hu) hf
      rw [eu] at HAN
      have HN2 := Lib.hid hi2
      have hkz : k ≤ 1000 := by omega
      clear hi2 hdr hf hu eu hinv hA2
      go_wp2_with (first | (go_at_call 62; fail))
      go_at_call 62
      refine (HAN.out _).mono ?_
      rintro e w3 ⟨rfl, hb3⟩
      have hr3 : Below wr.heap.size wr w3 := ((Below.refl _ _).alloc (Nat.le_refl _) _).trans (hb3.mono (by simp))
      have hb03 := hbl.out.trans (hr3.mono hbl.out.size)
      have hown3 := Lib.hid (owns_below hown.out hr3)
      have hsz3 := hr3.size
      have HL2 := Lib.hid (show acc.length + 1 ≤ 2000 by have := hlen.out; omega)
      have hwz3 : Hid (w1.heap.size ≤ w3.heap.size) := Lib.hid (Nat.le_trans hwz.out hsz3)
      clear hr3 hb3 hc0 hc1 hc2 hown hbl HAN
      go_wp2_with (first | (at_builtin; refine wpList_append_own _ rfl _ _ 102 rfl w1.heap.size 2 i0 (.int .i64 0) 1 8 Tryz.underlying102 hi hz0 hz1 hz2 rfl (by decide) _ _ _ rfl (hown3.out.alloc _) ⟨w3.heap.size, 0, none⟩ 1 1 [.int .i64 nn] rfl rfl ?c1 ?c2 ?c3 ?c4 ?c5 ?_))
      case c1 => exact news_one _ _ _
      case c2 => intro u hu; simp at hu; subst hu; rfl
      case c3 => have := HL2.out; unfold maxLen; omega
      case c4 => have := HL2.out; omega
      case c5 => have := hwz3.out; simp; omega
      · intro v' w4 hown4 hgrow4 _
        have hb04 := Lib.hid ((hb03.alloc hb03.size _).grown hgrow4 (by simp; have := hb03.size; simp at this; omega) (fun k hk => Nat.le_trans hs1.out (owns_row hown3.out k hk)))
        have HO := Lib.hid hown4
        have hwz4 : Hid (w1.heap.size ≤ w4.heap.size) := Lib.hid (by have := hgrow4.size; have := hwz3.out; simp at *; omega)
        clear hown4 hgrow4 hb03 hown3
        go_wp2
        go_roundw
        case rel => exact ⟨k + 1, acc ++ [nn], rfl, by omega, Lib.hid (by simp [hlen.out]), Lib.hid (by simpa using HO.out), HN2, hb04, hwz4⟩
        case measure => simp [RowKit.intOf]; omega
    · obtain rfl : k = 2 := by omega
      have hac : acc = [a, b] := by
        have := hinv.out
        rw [List.drop_of_length_le (by rw [HN.out]; exact Nat.le_refl _)] at this
        simpa [nums] using this
      subst hac
      have ho := hown.out
      obtain ⟨g1, cap1, rfl, _, _⟩ := ho.form (by simp)
      have hc0 : wr.cell? ⟨g1, 0, none⟩ = some (.int .i64 a) := ho.cellAt 0 (by simp)
      have hc1 : wr.cell? ⟨g1, 1, none⟩ = some (.int .i64 b) := ho.cellAt 1 (by simp)
      have hbw := hbl.out
      clear ho hown hinv hbl hwz hlen HR HN HS HA hkn
      simp only [List.length_cons, List.length_nil, Nat.reduceAdd]
      go_wp2_with (first | (go_at_call_of 64 (Value.int IntKind.i64 a); refine (HXa.out _).mono ?_; rintro e w' ⟨rfl, rfl⟩) | (go_at_call_of 64 (Value.int IntKind.i64 b); refine (HXb.out _).mono ?_; rintro e w' ⟨rfl, rfl⟩) | (go_at_call 71; refine (HNr.out _).mono ?_; rintro e w' ⟨rfl, rfl⟩) | (go_at_call 65; fail))
      go_at_call 65
      refine (HC.out _).mono ?_
      rintro e w3 ⟨rfl, hbx⟩
      have hb3 := hbw.trans (hbx.mono hbw.size)
      clear hbx hbw
      obtain ⟨hc', hf', hlt', hb0⟩ := out_ready hb3
      go_wp2
      obtain ⟨e0, e1, e2⟩ := set_three w3 w.heap.size (.int .i64 ya) (.int .i64 yb) (.string yc) (hc' 0) (hc' 1) (hc' 2)
      have hbf := set_below hb0 (.int .i64 ya) (.int .i64 yb) (.string yc)
      generalize (((w3.setCell ⟨w.heap.size, 0, none⟩ (.int .i64 ya)).setCell ⟨w.heap.size, 1, none⟩ (.int .i64 yb)).setCell ⟨w.heap.size, 2, none⟩ (.string yc)) = wf at *
      refine bodyPost_ret (v := .agg #[.int .i64 ya, .int .i64 yb, .string yc]) (by simp [results, Tryz.results15, go_sem, e0, e1, e2]) rfl ?_
      exact ⟨rfl, hbf⟩
end Go.Proofs.YtkobkeopajohiaaGreatDoor
