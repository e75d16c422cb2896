/-
  CONTRACT of the reference's Text.
-/
import Derived.Test.YtkobkeopajohiaaDoorT1
import Derived.Deep.QuietTactic
import Derived.BigQuiet

namespace Go.Proofs.YtkobkeopajohiaaDoor
open Go.RowKit Go.Lib

/-- noughts ahead until there are five digits or more: as Text and Fixed of the reference do -/
def PadInv (l : List UInt8) (t : ByteArray) : Prop := ∃ j, t.data.toList = List.replicate j 48 ++ l ∧ t.size = l.length + j ∧ j ≤ 5 - l.length
theorem padInv_start (s : ByteArray) : PadInv s.data.toList s := ⟨0, rfl, size_eq s, Nat.zero_le _⟩
theorem padInv_step {l : List UInt8} {t : ByteArray} (h : PadInv l t) (hlt : t.size < 5) : PadInv l (⟨#[48]⟩ ++ t) ∧ (⟨#[48]⟩ ++ t : ByteArray).size = t.size + 1 := by
  obtain ⟨j, h1, h2, h3⟩ := h
  have hz : (⟨#[48]⟩ ++ t : ByteArray).size = t.size + 1 := by rw [ByteArray.size_append]; show 1 + t.size = _; omega
  refine ⟨⟨j + 1, ?_, by rw [hz]; omega, by omega⟩, hz⟩
  rw [ByteArray.data_append, Array.toList_append, h1, List.replicate_succ]; rfl
theorem padInv_end {l : List UInt8} {t : ByteArray} (h : PadInv l t) (hge : 5 ≤ t.size) : t.data.toList = Tab.padTo 4 l := by
  obtain ⟨j, h1, h2, h3⟩ := h
  unfold Tab.padTo
  rw [h1, show j = 4 + 1 - l.length by omega]

/-- the two parts of digits that are padded -/
theorem parts_of (a : Nat) (t : ByteArray) (h : t.data.toList = decDigits (a / 10000) ++ Tab.four (a % 10000)) :
    (t.extract 0 (t.size - 4)).data.toList = decDigits (a / 10000) ∧ (t.extract (t.size - 4) t.size).data.toList = Tab.four (a % 10000) ∧ t.size = (decDigits (a / 10000)).length + 4 := by
  have hz : t.size = (decDigits (a / 10000)).length + 4 := by rw [size_eq, h, List.length_append]; rfl
  refine ⟨?_, ?_, hz⟩
  · rw [extract_data, h, hz]
    simp
  · rw [extract_data, h, hz]
    simp
    exact List.take_of_length_le (by simp [Tab.four])

/-- trailing noughts cut off, one by one -/
theorem trimB_snoc (l : List UInt8) (c : UInt8) : trimRightB (l ++ [c]) 48 = if c = 48 then trimRightB l 48 else l ++ [c] := by
  unfold trimRightB
  rw [List.reverse_append]
  simp only [List.reverse_cons, List.reverse_nil, List.nil_append, List.cons_append, List.dropWhile]
  by_cases h : c = 48
  · simp [h]
  · have : (c == 48) = false := by simp [h]
    simp [this, h]

theorem frac_of (p : Nat) (hp : p < 10000) : (trimRightB (Tab.four p) 48 ≠ [] → Tab.frac p = 46 :: trimRightB (Tab.four p) 48) ∧ (trimRightB (Tab.four p) 48 = [] → Tab.frac p = []) := by
  by_cases h0 : p = 0
  · subst h0
    exact ⟨fun h => absurd (by decide) h, fun _ => rfl⟩
  · obtain ⟨l, hl, hne, _, _⟩ := Tab.frac_back p h0 hp
    rw [Tab.four_eq p hp] at hl
    rw [hl]
    refine ⟨fun _ => ?_, fun h => absurd h hne⟩
    unfold Tab.frac
    rw [if_neg h0, Tab.four_eq p hp, hl]

set_option maxHeartbeats 800000 in
theorem refText_any (a : Int) (w : World) (ha : -999999999999999999 ≤ a ∧ a ≤ 999999999999999999) :
    Calls Tryd.prog 30 #[.int .i64 a] w fun e w' => e = .returned (.string ⟨(Tab.text a).toArray⟩) ∧ Below w.heap.size w w' := by
  obtain ⟨a0, a1⟩ := ha
  generalize hR : Tab.text a = R
  have HR := Lib.hid hR
  clear hR
  obtain ⟨s1, e1⟩ : ∃ s : ByteArray, s.data.toList = decDigits a.natAbs := ⟨⟨(decDigits _).toArray⟩, rfl⟩
  have z1 : s1.size ≤ 20 := by rw [size_eq, e1]; exact dec_size _ (by omega)
  have E1 := Lib.hid e1
  clear e1
  go_enter Tryd.func30, Tryd.ntmps30
  go_wp2_with (first
    | (go_at_call 34; refine (refSize_any a _ (by omega) (by omega)).mono ?_; rintro e w' ⟨rfl, rfl⟩))
  go_at_call 65
  refine (digits_is _ s1 _ (by omega) (by omega) (by rw [E1.out]; congr 1)).mono ?_
  rintro e w1 ⟨rfl, hb1⟩
  go_wp2_with (fail)
  go_loop [3] (fun v => ∃ t : ByteArray, v = .string t ∧ t.size ≤ 20 ∧ Hid (PadInv s1.data.toList t)) (fun v => match v with | .string t => 5 - t.size | _ => 0)
  case atStart => exact ⟨s1, rfl, z1, padInv_start s1⟩
  case round =>
    obtain ⟨t, rfl, htz, ht⟩ := hrel
    by_cases hlt : t.size < 5
    · obtain ⟨h1, h2⟩ := padInv_step ht.out hlt
      have H1 := Lib.hid h1
      have H2 := Lib.hid h2
      clear h1 h2
      go_wp2
      go_round
      case rel => exact ⟨_, rfl, by rw [H2.out]; omega, H1.out⟩
      case measure => show 5 - (⟨#[48]⟩ ++ t : ByteArray).size < 5 - t.size; rw [H2.out]; omega
    · have hp := padInv_end ht.out (by omega)
      rw [E1.out, Tab.pad_four] at hp
      obtain ⟨p1, p2, p3⟩ := parts_of a.natAbs t hp
      obtain ⟨wh, ewh⟩ : ∃ x : ByteArray, x = t.extract 0 (t.size - 4) := ⟨_, rfl⟩
      obtain ⟨pt, ept⟩ : ∃ x : ByteArray, x = t.extract (t.size - 4) t.size := ⟨_, rfl⟩
      have zw : wh.size ≤ 20 := by rw [size_eq, ewh, p1]; omega
      have zp : pt.size = 4 := by rw [size_eq, ept, p2]; rfl
      rw [← ewh] at p1
      rw [← ept] at p2
      have P1 := Lib.hid p1
      have P2 := Lib.hid p2
      have EW := Lib.hid ewh.symm
      have EP := Lib.hid ept.symm
      have x0 : 0 ≤ (t.size : Int) - 4 := by omega
      have x1 : (t.size : Int) - 4 ≤ t.size := by omega
      clear hp p1 p2 p3 ewh ept
      go_wp2
      go_quiet (fail)
      go_wp2
      rw [EW.out, EP.out]
      have hbw : Below w.heap.size w (w1.drewN nq) := below_drewN hb1 _
      go_loop [5] (fun v => ∃ u : ByteArray, v = .string u ∧ u.size ≤ 4 ∧ Hid (trimRightB u.data.toList 48 = trimRightB (Tab.four (a.natAbs % 10000)) 48)) (fun v => match v with | .string u => u.size | _ => 0)
      case atStart => exact ⟨pt, rfl, by omega, by show _ = _; rw [P2.out]⟩
      case round =>
        obtain ⟨u, rfl, huz, hu⟩ := hrel
        obtain ⟨F1, F2⟩ := frac_of (a.natAbs % 10000) (by omega)
        rw [← hu.out] at F1 F2
        have hRt : R = (if a < 0 then [45] else []) ++ (wh.data.toList ++ Tab.frac (a.natAbs % 10000)) := by rw [← HR.out, P1.out]; rfl
        by_cases hu0 : 0 < u.size
        · have hl : u.size - 1 < u.data.toList.length := by rw [← size_eq]; omega
          have hix : u.size - 1 < u.size := by omega
          have hsn : u.data.toList = u.data.toList.take (u.size - 1) ++ [u[u.size - 1]'hix] := by
            have h1 := List.take_append_getElem hl
            rw [show u.size - 1 + 1 = u.data.toList.length by rw [← size_eq]; omega, List.take_length] at h1
            exact h1.symm
          have htk : (u.extract 0 (u.size - 1)).data.toList = u.data.toList.take (u.size - 1) := by rw [extract_data]; simp
          have htz2 : (u.extract 0 (u.size - 1)).size = u.size - 1 := by rw [size_eq, htk, List.length_take, ← size_eq]; omega
          have hts := trimB_snoc (u.data.toList.take (u.size - 1)) (u[u.size - 1]'hix)
          rw [← hsn] at hts
          have y0 : 0 ≤ (u.size : Int) - 1 := by omega
          by_cases h48 : u[u.size - 1]'hix = 48
          · have hb : (((u[u.size - 1]'hix).toNat : Int) == 48) = true := by rw [h48]; rfl
            rw [if_pos h48] at hts
            have hn : trimRightB (u.extract 0 (u.size - 1)).data.toList 48 = trimRightB (Tab.four (a.natAbs % 10000)) 48 := by rw [htk, ← hts]; exact hu.out
            have HN := Lib.hid hn
            have HZ := Lib.hid htz2
            clear hn htz2 hts hsn htk h48 F1 F2 hRt hl
            go_wp2
            go_round
            case rel => exact ⟨_, rfl, by rw [HZ.out]; omega, HN.out⟩
            case measure => show (u.extract 0 (u.size - 1)).size < u.size; rw [HZ.out]; omega
          · have hb : (((u[u.size - 1]'hix).toNat : Int) == 48) = false := by
              rw [beq_eq_false_iff_ne]
              intro e
              exact h48 (by rw [← UInt8.toNat_inj]; show (u[u.size - 1]'hix).toNat = 48; omega)
            rw [if_neg h48] at hts
            have hf := F1 (by rw [hts]; intro e; have := congrArg List.length e; rw [← size_eq, List.length_nil] at this; omega)
            rw [hts] at hf
            rw [hf] at hRt
            have HRT := Lib.hid hRt
            clear hts hsn htk h48 F1 F2 hRt hl hf htz2
            by_cases hneg : a < 0
            · have hfin : (⟨#[45]⟩ ++ (wh ++ (⟨#[46]⟩ ++ u)) : ByteArray).data.toList = R := by
                rw [HRT.out, if_pos hneg]; simp only [ByteArray.data_append, Array.toList_append]; rfl
              have HF := Lib.hid hfin
              clear hfin
              go_wp2
              go_ret
              exact ⟨ret_str HF.out, hbw⟩
            · have hfin : (wh ++ (⟨#[46]⟩ ++ u) : ByteArray).data.toList = R := by
                rw [HRT.out, if_neg hneg]; simp only [ByteArray.data_append, Array.toList_append]; rfl
              have HF := Lib.hid hfin
              clear hfin
              go_wp2
              go_ret
              exact ⟨ret_str HF.out, hbw⟩
        · have hnil : u.data.toList = [] := List.eq_nil_of_length_eq_zero (by rw [← size_eq]; omega)
          have hf := F2 (by rw [hnil]; rfl)
          rw [hf, List.append_nil] at hRt
          have HRT := Lib.hid hRt
          clear F1 F2 hRt hf hnil
          by_cases hneg : a < 0
          · have hfin : (⟨#[45]⟩ ++ wh : ByteArray).data.toList = R := by
              rw [HRT.out, if_pos hneg]; simp only [ByteArray.data_append, Array.toList_append]
            have HF := Lib.hid hfin
            clear hfin
            go_wp2
            go_ret
            exact ⟨ret_str HF.out, hbw⟩
          · have hfin : wh.data.toList = R := by
              rw [HRT.out, if_neg hneg]; rfl
            have HF := Lib.hid hfin
            clear hfin
            go_wp2
            go_ret
            exact ⟨ret_str HF.out, hbw⟩
end Go.Proofs.YtkobkeopajohiaaDoor
