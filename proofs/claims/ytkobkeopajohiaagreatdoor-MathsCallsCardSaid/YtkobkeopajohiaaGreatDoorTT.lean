/-
  CONTRACT of the reference's Text.
  CONTRACT of the reference's Parse: sign by sign.
-/
import Derived.Test.YtkobkeopajohiaaGreatDoorRR
import Derived.Deep.QuietTactic
import Derived.BigQuiet
import Derived.Test.YtkobkeopajohiaaGreatDoorPL
namespace Go.Proofs.YtkobkeopajohiaaGreatDoor
open Go.RowKit Go.Lib

/-- noughts ahead until there are five digits or more: as Text and Fixed of the reference do -/
def PadInv (l : List UInt8) (t : ByteArray) : Prop := ∃ j, t.data.toList = List.replicate j 48 ++ l ∧ t.size = l.length + j ∧ j ≤ 5 - l.length
theorem padInv_start (s : ByteArray) : PadInv s.data.toList s := ⟨0, rfl, size_eq s, Nat.zero_le _⟩
theorem padInv_step {l : List UInt8} {t : ByteArray} (h : PadInv l t) (hlt : t.size < 5) : PadInv l (⟨#[48]⟩ ++ t) ∧ (⟨#[48]⟩ ++ t : ByteArray).size = t.size + 1 := by
  obtain ⟨j, h1, h2, h3⟩ := h
  have hz : (⟨#[48]⟩ ++ t : ByteArray).size = t.size + 1 := by rw [ByteArray.size_append]; show 1 + t.size = _; omega
  refine ⟨⟨j + 1, ?_, by rw [hz]; omega, by omega⟩, hz⟩
  rw [ByteArray.data_append, Array.toList_append, h1, List.replicate_succ]; rfl
theorem padInv_end {l : List UInt8} {t : ByteArray} (h : PadInv l t) (hge : 5 ≤ t.size) : t.data.toList = Tab.padTo 4 l := by
  obtain ⟨j, h1, h2, h3⟩ := h
  unfold Tab.padTo
  rw [h1, show j = 4 + 1 - l.length by omega]

/-- the two parts of digits that are padded -/
theorem parts_of (a : Nat) (t : ByteArray) (h : t.data.toList = decDigits (a / 10000) ++ Tab.four (a % 10000)) :
    (t.extract 0 (t.size - 4)).data.toList = decDigits (a / 10000) ∧ (t.extract (t.size - 4) t.size).data.toList = Tab.four (a % 10000) ∧ t.size = (decDigits (a / 10000)).length + 4 := by
  have hz : t.size = (decDigits (a / 10000)).length + 4 := by rw [size_eq, h, List.length_append]; rfl
  refine ⟨?_, ?_, hz⟩
  · rw [extract_data, h, hz]
    simp
  · rw [extract_data, h, hz]
    simp
    exact List.take_of_length_le (by simp [Tab.four])

/-- trailing noughts cut off, one by one -/
theorem trimB_snoc (l : List UInt8) (c : UInt8) : trimRightB (l ++ [c]) 48 = if c = 48 then trimRightB l 48 else l ++ [c] := by
  unfold trimRightB
  rw [List.reverse_append]
  simp only [List.reverse_cons, List.reverse_nil, List.nil_append, List.cons_append, List.dropWhile]
  by_cases h : c = 48
  · simp [h]
  · have : (c == 48) = false := by simp [h]
    simp [this, h]

theorem frac_of (p : Nat) (hp : p < 10000) : (trimRightB (Tab.four p) 48 ≠ [] → Tab.frac p = 46 :: trimRightB (Tab.four p) 48) ∧ (trimRightB (Tab.four p) 48 = [] → Tab.frac p = []) := by
  by_cases h0 : p = 0
  · subst h0
    exact ⟨fun h => absurd (by decide) h, fun _ => rfl⟩
  · obtain ⟨l, hl, hne, _, _⟩ := Tab.frac_back p h0 hp
    rw [Tab.four_eq p hp] at hl
    rw [hl]
    refine ⟨fun _ => ?_, fun h => absurd h hne⟩
    unfold Tab.frac
    rw [if_neg h0, Tab.four_eq p hp, hl]

set_option maxHeartbeats 800000 in
theorem refText_any (a : Int) (w : World) (ha : -999999999999999999 ≤ a ∧ a ≤ 999999999999999999) :
    Calls Tryz.prog 139 #[.int .i64 a] w fun e w' => e = .returned (.string ⟨(Tab.text a).toArray⟩) ∧ Below w.heap.size w w' := by
  obtain ⟨a0, a1⟩ := ha
  generalize hR : Tab.text a = R
  have HR := Lib.hid hR
  clear hR
  obtain ⟨s1, e1⟩ : ∃ s : ByteArray, s.data.toList = decDigits a.natAbs := ⟨⟨(decDigits _).toArray⟩, rfl⟩
  have z1 : s1.size ≤ 20 := by rw [size_eq, e1]; exact dec_size _ (by omega)
  have E1 := Lib.hid e1
  clear e1
  go_enter Tryz.func139, Tryz.ntmps139
  go_wp2_with (first
    | (go_at_call 64; refine (refSize_any a _ (by omega) (by omega)).mono ?_; rintro e w' ⟨rfl, rfl⟩))
  go_at_call 129
  refine (digits_is _ s1 _ (by omega) (by omega) (by rw [E1.out]; congr 1)).mono ?_
  rintro e w1 ⟨rfl, hb1⟩
  go_wp2_with (fail)
  go_loop [3] (fun v => ∃ t : ByteArray, v = .string t ∧ t.size ≤ 20 ∧ Hid (PadInv s1.data.toList t)) (fun v => match v with | .string t => 5 - t.size | _ => 0)
  case atStart => exact ⟨s1, rfl, z1, padInv_start s1⟩
  case round =>
    obtain ⟨t, rfl, htz, ht⟩ := hrel
    by_cases hlt : t.size < 5
    · obtain ⟨h1, h2⟩ := padInv_step ht.out hlt
      have H1 := Lib.hid h1
      have H2 := Lib.hid h2
      clear h1 h2
      go_wp2
      go_round
      case rel => exact ⟨_, rfl, by rw [H2.out]; omega, H1.out⟩
      case measure => show 5 - (⟨#[48]⟩ ++ t : ByteArray).size < 5 - t.size; rw [H2.out]; omega
    · have hp := padInv_end ht.out (by omega)
      rw [E1.out, Tab.pad_four] at hp
      obtain ⟨p1, p2, p3⟩ := parts_of a.natAbs t hp
      obtain ⟨wh, ewh⟩ : ∃ x : ByteArray, x = t.extract 0 (t.size - 4) := ⟨_, rfl⟩
      obtain ⟨pt, ept⟩ : ∃ x : ByteArray, x = t.extract (t.size - 4) t.size := ⟨_, rfl⟩
      have zw : wh.size ≤ 20 := by rw [size_eq, ewh, p1]; omega
      have zp : pt.size = 4 := by rw [size_eq, ept, p2]; rfl
      rw [← ewh] at p1
      rw [← ept] at p2
      have P1 := Lib.hid p1
      have P2 := Lib.hid p2
      have EW := Lib.hid ewh.symm
      have EP := Lib.hid ept.symm
      have x0 : 0 ≤ (t.size : Int) - 4 := by omega
      have x1 : (t.size : Int) - 4 ≤ t.size := by omega
      clear hp p1 p2 p3 ewh ept
      go_wp2
      go_quiet (fail)
      go_wp2
      rw [EW.out, EP.out]
      have hbw : Below w.heap.size w (w1.drewN nq) := below_drewN hb1 _
      go_loop [5] (fun v => ∃ u : ByteArray, v = .string u ∧ u.size ≤ 4 ∧ Hid (trimRightB u.data.toList 48 = trimRightB (Tab.four (a.natAbs % 10000)) 48)) (fun v => match v with | .string u => u.size | _ => 0)
      case atStart => exact ⟨pt, rfl, by omega, by show _ = _; rw [P2.out]⟩
      case round =>
        obtain ⟨u, rfl, huz, hu⟩ := hrel
        obtain ⟨F1, F2⟩ := frac_of (a.natAbs % 10000) (by omega)
        rw [← hu.out] at F1 F2
        have hRt : R = (if a < 0 then [45] else []) ++ (wh.data.toList ++ Tab.frac (a.natAbs % 10000)) := by rw [← HR.out, P1.out]; rfl
        by_cases hu0 : 0 < u.size
        · have hl : u.size - 1 < u.data.toList.length := by rw [← size_eq]; omega
          have hix : u.size - 1 < u.size := by omega
          have hsn : u.data.toList = u.data.toList.take (u.size - 1) ++ [u[u.size - 1]'hix] := by
            have h1 := List.take_append_getElem hl
            rw [show u.size - 1 + 1 = u.data.toList.length by rw [← size_eq]; omega, List.take_length] at h1
            exact h1.symm
          have htk : (u.extract 0 (u.size - 1)).data.toList = u.data.toList.take (u.size - 1) := by rw [extract_data]; simp
          have htz2 : (u.extract 0 (u.size - 1)).size = u.size - 1 := by rw [size_eq, htk, List.length_take, ← size_eq]; omega
          have hts := trimB_snoc (u.data.toList.take (u.size - 1)) (u[u.size - 1]'hix)
          rw [← hsn] at hts
          have y0 : 0 ≤ (u.size : Int) - 1 := by omega
          by_cases h48 : u[u.size - 1]'hix = 48
          · have hb : (((u[u.size - 1]'hix).toNat : Int) == 48) = true := by rw [h48]; rfl
            rw [if_pos h48] at hts
            have hn : trimRightB (u.extract 0 (u.size - 1)).data.toList 48 = trimRightB (Tab.four (a.natAbs % 10000)) 48 := by rw [htk, ← hts]; exact hu.out
            have HN := Lib.hid hn
            have HZ := Lib.hid htz2
            clear hn htz2 hts hsn htk h48 F1 F2 hRt hl
            go_wp2
            go_round
            case rel => exact ⟨_, rfl, by rw [HZ.out]; omega, HN.out⟩
            case measure => show (u.extract 0 (u.size - 1)).size < u.size; rw [HZ.out]; omega
          · have hb : (((u[u.size - 1]'hix).toNat : Int) == 48) = false := by
              rw [beq_eq_false_iff_ne]
              intro e
              exact h48 (by rw [← UInt8.toNat_inj]; show (u[u.size - 1]'hix).toNat = 48; omega)
            rw [if_neg h48] at hts
            have hf := F1 (by rw [hts]; intro e; have := congrArg List.length e; rw [← size_eq, List.length_nil] at this; omega)
            rw [hts] at hf
            rw [hf] at hRt
            have HRT := Lib.hid hRt
            clear hts hsn htk h48 F1 F2 hRt hl hf htz2
            by_cases hneg : a < 0
            · have hfin : (⟨#[45]⟩ ++ (wh ++ (⟨#[46]⟩ ++ u)) : ByteArray).data.toList = R := by
                rw [HRT.out, if_pos hneg]; simp only [ByteArray.data_append, Array.toList_append]; rfl
              have HF := Lib.hid hfin
              clear hfin
              go_wp2
              go_ret
              exact ⟨ret_str HF.out, hbw⟩
            · have hfin : (wh ++ (⟨#[46]⟩ ++ u) : ByteArray).data.toList = R := by
                rw [HRT.out, if_neg hneg]; simp only [ByteArray.data_append, Array.toList_append]; rfl
              have HF := Lib.hid hfin
              clear hfin
              go_wp2
              go_ret
              exact ⟨ret_str HF.out, hbw⟩
        · have hnil : u.data.toList = [] := List.eq_nil_of_length_eq_zero (by rw [← size_eq]; omega)
          have hf := F2 (by rw [hnil]; rfl)
          rw [hf, List.append_nil] at hRt
          have HRT := Lib.hid hRt
          clear F1 F2 hRt hf hnil
          by_cases hneg : a < 0
          · have hfin : (⟨#[45]⟩ ++ wh : ByteArray).data.toList = R := by
              rw [HRT.out, if_pos hneg]; simp only [ByteArray.data_append, Array.toList_append]
            have HF := Lib.hid hfin
            clear hfin
            go_wp2
            go_ret
            exact ⟨ret_str HF.out, hbw⟩
          · have hfin : wh.data.toList = R := by
              rw [HRT.out, if_neg hneg]; rfl
            have HF := Lib.hid hfin
            clear hfin
            go_wp2
            go_ret
            exact ⟨ret_str HF.out, hbw⟩
end Go.Proofs.YtkobkeopajohiaaGreatDoor
namespace Go.Proofs.YtkobkeopajohiaaGreatDoor
open Go.RowKit Go.Lib

theorem parseR_neg (s : ByteArray) (c : UInt8) (l : List UInt8) (h : s.data.toList = c :: l) (hc : c = 45) : Tab.parseR s.data.toList = Tab.afterScan true (Tab.scan l [] [] 0) := by
  unfold Tab.parseR
  rw [h, hc]; rfl
theorem parseR_pos (s : ByteArray) (h : s.data.toList.head? ≠ some 45) : Tab.parseR s.data.toList = Tab.afterScan false (Tab.scan s.data.toList [] [] 0) := by
  unfold Tab.parseR
  rw [if_neg h]

theorem dig_nil : Tab.Dig (ByteArray.mk #[]).data.toList := fun c hc => by cases hc
theorem value_gen (m : Bool) (s : ByteArray) (R : Int × Bool) (w : World) (hs : s.size ≤ 4294967296) (h : Tab.valueR m s.data.toList = R) (hd : Tab.Dig s.data.toList) :
    Calls Tryz.prog 130 #[.bool m, .string s] w fun e w' => e = .returned (.tuple #[.int .i64 R.1, .bool R.2]) ∧ w = w' := by
  have := value_any m s w hs hd
  rw [h] at this
  exact this
set_option maxHeartbeats 6400000 in
set_option maxRecDepth 100000 in
theorem refParse_any (s : ByteArray) (w : World) (hs : s.size ≤ 4294967) :
    Calls Tryz.prog 126 #[.string s] w fun e w' => e = .returned (.tuple #[.int .i64 (Tab.parse s.data.toList).1, .bool (Tab.parse s.data.toList).2]) ∧ Below w.heap.size w w' := by
  rw [← Tab.parseR_eq]
  -- the body and the sign
  have hbody : ∃ (m : Bool) (b : ByteArray), b.size ≤ 4294967 ∧ Tab.parseR s.data.toList = Tab.afterScan m (Tab.scan b.data.toList [] [] 0) ∧
      ((m = true ∧ b = s.extract 1 s.size ∧ ∃ h0 : 0 < s.size, (((s[0]'h0).toNat : Int) == 45) = true) ∨ (m = false ∧ b = s ∧ ((s.size ≤ 0) ∨ ∃ h0 : 0 < s.size, (((s[0]'h0).toNat : Int) == 45) = false))) := by
    by_cases h0 : 0 < s.size
    · have hl : 0 < s.data.toList.length := by rw [← size_eq]; exact h0
      obtain ⟨c, l, hcl⟩ : ∃ c l, s.data.toList = c :: l := by
        cases hh : s.data.toList with
        | nil => rw [hh] at hl; simp at hl
        | cons c l => exact ⟨c, l, rfl⟩
      have hce : s[0]'h0 = c := by
        have e1 : s.data.toList[0]'hl = c := by simp only [hcl]; rfl
        rw [← e1]; simp; rfl
      by_cases h45 : c = 45
      · have hx : (s.extract 1 s.size).data.toList = l := by
          rw [extract_data, hcl]
          simp only [List.drop_succ_cons, List.drop_zero]
          exact List.take_of_length_le (by have := congrArg List.length hcl; rw [← size_eq, List.length_cons] at this; omega)
        refine ⟨true, s.extract 1 s.size, ?_, ?_, .inl ⟨rfl, rfl, h0, by rw [hce, h45]; rfl⟩⟩
        · rw [size_eq, hx]; have := congrArg List.length hcl; rw [← size_eq, List.length_cons] at this; omega
        · rw [hx]; exact parseR_neg s c l hcl h45
      · refine ⟨false, s, hs, parseR_pos s (by rw [hcl]; simpa using h45), .inr ⟨rfl, rfl, .inr ⟨h0, ?_⟩⟩⟩
        rw [hce, beq_eq_false_iff_ne]
        intro e
        exact h45 (by rw [← UInt8.toNat_inj]; show c.toNat = 45; omega)
    · refine ⟨false, s, hs, parseR_pos s ?_, .inr ⟨rfl, rfl, .inl (by omega)⟩⟩
      have : s.data.toList = [] := List.eq_nil_of_length_eq_zero (by rw [← size_eq]; omega)
      rw [this]; simp
  obtain ⟨m, b, hb, hp, hcase⟩ := hbody
  rw [hp]
  generalize hR : Tab.afterScan m (Tab.scan b.data.toList [] [] 0) = R
  have HR := Lib.hid hR
  have hbI : (b.size : Int) ≤ 4294967 := by omega
  clear hR hp
  rcases hcase with ⟨hm, hbe, h0, h45⟩ | ⟨hm, hbe, hcase⟩
  · have HB := Lib.hid hbe.symm
    clear hbe
    subst hm
    go_enter Tryz.func126, Tryz.ntmps126
    go_wp2_with (fail)
    rw [HB.out]
    go_loop [5, 6, 7, 8] (fun va vb vd vi => ∃ (A B : ByteArray) (d k : Nat), va = .string A ∧ vb = .string B ∧ vd = .int .i64 d ∧ vi = .int .i64 k ∧ k ≤ b.size ∧ A.size ≤ k ∧ B.size ≤ k ∧ d ≤ k ∧ Hid (Tab.Dig A.data.toList ∧ Tab.Dig B.data.toList) ∧ Hid (Tab.afterScan true (Tab.scan (b.data.toList.drop k) A.data.toList B.data.toList d) = R)) (fun _ _ _ vi => b.size - (RowKit.intOf vi).toNat)
    case atStart => exact ⟨⟨#[]⟩, ⟨#[]⟩, 0, 0, rfl, rfl, rfl, rfl, Nat.zero_le _, by decide, by decide, Nat.le_refl _, Lib.hid (And.intro dig_nil dig_nil), HR.out⟩
    case round =>
      obtain ⟨A, B, d, k, rfl, rfl, rfl, rfl, hk, hA, hB, hd, hdig, hinv⟩ := hrel
      by_cases hlt : k < b.size
      · have hl : k < b.data.toList.length := by rw [← size_eq]; exact hlt
        have hcons : b.data.toList.drop k = b[k] :: b.data.toList.drop (k + 1) := by
          rw [List.drop_eq_getElem_cons hl]; congr 1
        have hx : (b.extract k (k + 1)).data.toList = [b[k]] := by
          rw [extract_data, hcons, show k + 1 - k = 1 by omega]; rfl
        have hxz : (b.extract k (k + 1)).size = 1 := by rw [size_eq, hx]; rfl
        have hd2 := hinv.out
        rw [hcons] at hd2
        simp only [Tab.scan] at hd2
        generalize hc : b[k] = c at *
        have hc8 := c.toNat_lt
        have hc9 : (c.toNat : Int) < 256 := by omega
        have l48 : c < 48 ↔ (c.toNat : Int) < 48 := by rw [UInt8.lt_iff_toNat_lt]; show c.toNat < 48 ↔ _; omega
        have l57 : 57 < c ↔ 57 < (c.toNat : Int) := by rw [UInt8.lt_iff_toNat_lt]; show 57 < c.toNat ↔ _; omega
        have hA2 : (A ++ b.extract k (k + 1)).size ≤ k + 1 := by rw [ByteArray.size_append, hxz]; omega
        have hB2 : (B ++ b.extract k (k + 1)).size ≤ k + 1 := by rw [ByteArray.size_append, hxz]; omega
        by_cases h46 : c = 46
        · have t46 : ((c.toNat : Int) == 46) = true := by rw [h46]; rfl
          rw [if_pos h46] at hd2
          have HD := Lib.hid hd2
          clear hd2 hcons hx hxz l48 l57 hA2 hB2 hc8 h46
          go_wp2
          go_round
          case rel => exact ⟨A, B, d + 1, k + 1, rfl, rfl, by go_num, by go_num, by omega, by omega, by omega, by omega, hdig, HD.out⟩
          case measure => simp [RowKit.intOf]; omega
        · have t46 : ((c.toNat : Int) == 46) = false := by
            rw [beq_eq_false_iff_ne]; intro e; exact h46 (by rw [← UInt8.toNat_inj]; show c.toNat = 46; omega)
          rw [if_neg h46] at hd2
          by_cases hbad : (c.toNat : Int) < 48 ∨ ¬ (c.toNat : Int) < 48 ∧ 57 < (c.toNat : Int)
          · rw [if_pos (by rw [l48, l57]; omega)] at hd2
            have hr : R = (0, false) := hd2.symm
            have HD := Lib.hid hr
            clear hd2 hcons hx hxz l48 l57 hA2 hB2 hc8 h46 hr
            rcases hbad with hbad | ⟨hbad0, hbad⟩
            all_goals
              go_wp2
              go_ret2
              exact ⟨by rw [HD.out]; rfl, Below.refl _ _⟩
          · rw [if_neg (by rw [l48, l57]; omega)] at hd2
            have b1 : ¬ (c.toNat : Int) < 48 := by omega
            have b2 : ¬ 57 < (c.toNat : Int) := by omega
            by_cases hd0 : d = 0
            · rw [if_pos hd0] at hd2
              have td : ((d : Int) == 0) = true := by simp [hd0]
              have hn : Tab.afterScan true (Tab.scan (b.data.toList.drop (k + 1)) (A ++ b.extract k (k + 1)).data.toList B.data.toList d) = R := by
                rw [ByteArray.data_append, Array.toList_append, hx]; exact hd2
              have HDA := Lib.hid (show Tab.Dig (A ++ b.extract k (k + 1)).data.toList by rw [ByteArray.data_append, Array.toList_append, hx]; exact hdig.out.1.append (fun x hx => by rw [List.mem_singleton] at hx; subst hx; omega))
              have HD := Lib.hid hn
              have HA2 := Lib.hid hA2
              have HXZ := Lib.hid hxz
              have hxz1 : (b.extract k (k + 1)).size ≤ 1 := by omega
              clear hd2 hcons hx hxz l48 l57 hA2 hB2 hc8 h46 hbad hd0 hn
              go_wp2
              go_round
              case rel => exact ⟨A ++ b.extract k (k + 1), B, d, k + 1, rfl, rfl, rfl, by go_num, by omega, HA2.out, by omega, by omega, Lib.hid (And.intro HDA.out hdig.out.2), HD.out⟩
              case measure => simp [RowKit.intOf]; omega
            · rw [if_neg hd0] at hd2
              have td : ((d : Int) == 0) = false := by simp [hd0]
              have hn : Tab.afterScan true (Tab.scan (b.data.toList.drop (k + 1)) A.data.toList (B ++ b.extract k (k + 1)).data.toList d) = R := by
                rw [ByteArray.data_append, Array.toList_append, hx]; exact hd2
              have HDA := Lib.hid (show Tab.Dig (B ++ b.extract k (k + 1)).data.toList by rw [ByteArray.data_append, Array.toList_append, hx]; exact hdig.out.2.append (fun x hx => by rw [List.mem_singleton] at hx; subst hx; omega))
              have HD := Lib.hid hn
              have HB2 := Lib.hid hB2
              have hxz1 : (b.extract k (k + 1)).size ≤ 1 := by omega
              clear hd2 hcons hx hxz l48 l57 hA2 hB2 hc8 h46 hbad hd0 hn
              go_wp2
              go_round
              case rel => exact ⟨A, B ++ b.extract k (k + 1), d, k + 1, rfl, rfl, rfl, by go_num, by omega, by omega, HB2.out, by omega, Lib.hid (And.intro hdig.out.1 HDA.out), HD.out⟩
              case measure => simp [RowKit.intOf]; omega
      · have hke : k = b.data.toList.length := by rw [← size_eq]; omega
        have hend := hinv.out
        rw [hke, List.drop_length] at hend
        simp only [Tab.scan, Tab.afterScan] at hend
        have hAe : A.data.toList = [] ↔ A.size = 0 := by rw [size_eq]; exact List.length_eq_zero_iff.symm
        have hBe : B.data.toList = [] ↔ B.size = 0 := by rw [size_eq]; exact List.length_eq_zero_iff.symm
        rw [← size_eq B] at hend
        by_cases hc : 1 < d ∨ A.data.toList = [] ∨ d = 1 ∧ B.data.toList = [] ∨ 4 < B.size
        · rw [if_pos hc] at hend
          rw [hAe, hBe] at hc
          have HD := Lib.hid hend.symm
          clear hend hke hinv hAe hBe
          by_cases c1 : 1 < (d : Int)
          · clear hc
            go_wp2
            go_ret2
            exact ⟨by rw [HD.out]; rfl, Below.refl _ _⟩
          · by_cases c2 : A.size = 0
            · have t2 : ((A.size : Int) == 0) = true := by simp [c2]
              clear hc c2
              go_wp2
              go_ret2
              exact ⟨by rw [HD.out]; rfl, Below.refl _ _⟩
            · have t2 : ((A.size : Int) == 0) = false := by rw [beq_eq_false_iff_ne]; omega
              by_cases c3 : d = 1 ∧ B.size = 0
              · have t3 : ((d : Int) == 1) = true := by simp [c3.1]
                have t4 : ((B.size : Int) == 0) = true := by simp [c3.2]
                clear hc c2 c3
                go_wp2
                go_ret2
                exact ⟨by rw [HD.out]; rfl, Below.refl _ _⟩
              · have c4 : 4 < (B.size : Int) := by omega
                have c4' : 4 < B.size := by omega
                have t4 : ((B.size : Int) == 0) = false := by rw [beq_eq_false_iff_ne]; omega
                by_cases c5 : d = 1
                · have t3 : ((d : Int) == 1) = true := by simp [c5]
                  clear hc c2 c3 c5
                  go_wp2
                  go_ret2
                  exact ⟨by rw [HD.out]; rfl, Below.refl _ _⟩
                · have t3 : ((d : Int) == 1) = false := by rw [beq_eq_false_iff_ne]; omega
                  clear hc c2 c3 c5
                  go_wp2
                  go_ret2
                  exact ⟨by rw [HD.out]; rfl, Below.refl _ _⟩
        · rw [if_neg hc] at hend
          rw [hAe, hBe] at hc
          have c1 : ¬ 1 < (d : Int) := by omega
          have c2 : ((A.size : Int) == 0) = false := by rw [beq_eq_false_iff_ne]; omega
          have c4 : (B.size : Int) ≤ 4 := by omega
          have c34 : ((d : Int) == 1) = true ∧ ((B.size : Int) == 0) = false ∨ ((d : Int) == 1) = false := by
            by_cases c5 : d = 1
            · left; exact ⟨by simp [c5], by rw [beq_eq_false_iff_ne]; omega⟩
            · right; rw [beq_eq_false_iff_ne]; omega
          have HE := Lib.hid hend
          clear hend hke hinv hAe hBe hc
          rcases c34 with ⟨c5, c6⟩ | c5
          all_goals
            go_wp2_with (fail)
            go_loop [6] (fun v => ∃ (u : ByteArray) (j : Nat), v = .string u ∧ u.size ≤ 4 ∧ Hid (u.data.toList = B.data.toList ++ List.replicate j 48 ∧ u.size = B.size + j)) (fun v => match v with | .string u => 4 - u.size | _ => 0)
            case atStart => exact ⟨B, 0, rfl, by omega, by show _ = _ ++ []; rw [List.append_nil], rfl⟩
            case round =>
              obtain ⟨u, j, rfl, huz, hu⟩ := hrel
              by_cases hu4 : u.size < 4
              · have hd2 : (u ++ ⟨#[48]⟩ : ByteArray).data.toList = B.data.toList ++ List.replicate (j + 1) 48 := by
                  rw [ByteArray.data_append, Array.toList_append, hu.out.1, List.replicate_succ', List.append_assoc]
                have hz2 : (u ++ ⟨#[48]⟩ : ByteArray).size = u.size + 1 := by rw [ByteArray.size_append]; rfl
                have HD := Lib.hid hd2
                have HZ := Lib.hid hz2
                clear hd2 hz2
                go_wp2
                go_round
                case rel => exact ⟨_, j + 1, rfl, by rw [HZ.out]; omega, HD.out, by rw [HZ.out, hu.out.2]; omega⟩
                case measure => show 4 - (u ++ ⟨#[48]⟩ : ByteArray).size < 4 - u.size; rw [HZ.out]; omega
              · have hpad : u.data.toList = Tab.padR B.data.toList := by
                  have h1 := hu.out.1
                  have h2 := hu.out.2
                  unfold Tab.padR
                  rw [h1, ← size_eq, show j = 4 - B.size by omega]
                obtain ⟨q, eq⟩ : ∃ q : ByteArray, q.data.toList = Tab.strip (A ++ u).data.toList := ⟨⟨(Tab.strip _).toArray⟩, rfl⟩
                have hq2 : q.data.toList = Tab.strip (A.data.toList ++ Tab.padR B.data.toList) := by rw [eq, ByteArray.data_append, Array.toList_append, hpad]
                have hqz : q.size ≤ 4294967296 := by
                  have h1 := (List.dropWhile_sublist (fun x => x == (48 : UInt8)) (l := (A ++ u).data.toList)).length_le
                  have h2 : q.data.toList.length ≤ (A ++ u).data.toList.length := by rw [eq]; exact h1
                  rw [← size_eq, ← size_eq, ByteArray.size_append] at h2
                  omega
                have hval : Tab.valueR true q.data.toList = R := by rw [hq2]; exact HE.out
                have HDQ := Lib.hid (show Tab.Dig q.data.toList by rw [hq2]; exact Tab.dig_strip (hdig.out.1.append (hdig.out.2.append (Tab.dig_zeros _))))
                have HQ := Lib.hid eq
                have HV := Lib.hid hval
                have HQZ := Lib.hid hqz
                clear hpad eq hq2 hval hqz
                go_wp2_with (first
                  | (go_at_call 132; refine (strip_is _ q _ HQ.out).mono ?_; rintro e w' ⟨rfl, rfl⟩)
                  | (go_at_call 130; refine (value_gen true q R _ HQZ.out HV.out HDQ.out).mono ?_; rintro e w' ⟨rfl, rfl⟩))
                go_ret2
                exact ⟨rfl, Below.refl _ _⟩
  · subst hbe
    subst hm
    rcases hcase with h0 | ⟨h0, h45⟩
    · have hnil : b.data.toList = [] := List.eq_nil_of_length_eq_zero (by rw [← size_eq]; omega)
      have hr : R = (0, false) := by rw [← HR.out, hnil]; rfl
      have HD := Lib.hid hr
      have hb0 : (b.size : Int) ≤ 0 := by omega
      clear hr hnil h0
      go_enter Tryz.func126, Tryz.ntmps126
      go_wp2_with (fail)
      go_loop [5, 6, 7, 8] (fun va vb vd vi => ∃ k : Nat, va = .string ⟨#[]⟩ ∧ vb = .string ⟨#[]⟩ ∧ vd = .int .i64 0 ∧ vi = .int .i64 k) (fun _ _ _ _ => 0)
      case atStart => exact ⟨0, rfl, rfl, rfl, rfl⟩
      case round =>
        obtain ⟨k, rfl, rfl, rfl, rfl⟩ := hrel
        have hk : ¬ (k : Int) < b.size := by omega
        have hk2 : ¬ k < b.size := by omega
        go_wp2
        go_ret2
        exact ⟨by rw [HD.out]; rfl, Below.refl _ _⟩
    · go_enter Tryz.func126, Tryz.ntmps126
      go_wp2_with (fail)
      go_loop [5, 6, 7, 8] (fun va vb vd vi => ∃ (A B : ByteArray) (d k : Nat), va = .string A ∧ vb = .string B ∧ vd = .int .i64 d ∧ vi = .int .i64 k ∧ k ≤ b.size ∧ A.size ≤ k ∧ B.size ≤ k ∧ d ≤ k ∧ Hid (Tab.Dig A.data.toList ∧ Tab.Dig B.data.toList) ∧ Hid (Tab.afterScan false (Tab.scan (b.data.toList.drop k) A.data.toList B.data.toList d) = R)) (fun _ _ _ vi => b.size - (RowKit.intOf vi).toNat)
      case atStart => exact ⟨⟨#[]⟩, ⟨#[]⟩, 0, 0, rfl, rfl, rfl, rfl, Nat.zero_le _, by decide, by decide, Nat.le_refl _, Lib.hid (And.intro dig_nil dig_nil), HR.out⟩
      case round =>
        obtain ⟨A, B, d, k, rfl, rfl, rfl, rfl, hk, hA, hB, hd, hdig, hinv⟩ := hrel
        by_cases hlt : k < b.size
        · have hl : k < b.data.toList.length := by rw [← size_eq]; exact hlt
          have hcons : b.data.toList.drop k = b[k] :: b.data.toList.drop (k + 1) := by
            rw [List.drop_eq_getElem_cons hl]; congr 1
          have hx : (b.extract k (k + 1)).data.toList = [b[k]] := by
            rw [extract_data, hcons, show k + 1 - k = 1 by omega]; rfl
          have hxz : (b.extract k (k + 1)).size = 1 := by rw [size_eq, hx]; rfl
          have hd2 := hinv.out
          rw [hcons] at hd2
          simp only [Tab.scan] at hd2
          generalize hc : b[k] = c at *
          have hc8 := c.toNat_lt
          have hc9 : (c.toNat : Int) < 256 := by omega
          have l48 : c < 48 ↔ (c.toNat : Int) < 48 := by rw [UInt8.lt_iff_toNat_lt]; show c.toNat < 48 ↔ _; omega
          have l57 : 57 < c ↔ 57 < (c.toNat : Int) := by rw [UInt8.lt_iff_toNat_lt]; show 57 < c.toNat ↔ _; omega
          have hA2 : (A ++ b.extract k (k + 1)).size ≤ k + 1 := by rw [ByteArray.size_append, hxz]; omega
          have hB2 : (B ++ b.extract k (k + 1)).size ≤ k + 1 := by rw [ByteArray.size_append, hxz]; omega
          by_cases h46 : c = 46
          · have t46 : ((c.toNat : Int) == 46) = true := by rw [h46]; rfl
            rw [if_pos h46] at hd2
            have HD := Lib.hid hd2
            clear hd2 hcons hx hxz l48 l57 hA2 hB2 hc8 h46
            go_wp2
            go_round
            case rel => exact ⟨A, B, d + 1, k + 1, rfl, rfl, by go_num, by go_num, by omega, by omega, by omega, by omega, hdig, HD.out⟩
            case measure => simp [RowKit.intOf]; omega
          · have t46 : ((c.toNat : Int) == 46) = false := by
              rw [beq_eq_false_iff_ne]; intro e; exact h46 (by rw [← UInt8.toNat_inj]; show c.toNat = 46; omega)
            rw [if_neg h46] at hd2
            by_cases hbad : (c.toNat : Int) < 48 ∨ ¬ (c.toNat : Int) < 48 ∧ 57 < (c.toNat : Int)
            · rw [if_pos (by rw [l48, l57]; omega)] at hd2
              have hr : R = (0, false) := hd2.symm
              have HD := Lib.hid hr
              clear hd2 hcons hx hxz l48 l57 hA2 hB2 hc8 h46 hr
              rcases hbad with hbad | ⟨hbad0, hbad⟩
              all_goals
                go_wp2
                go_ret2
                exact ⟨by rw [HD.out]; rfl, Below.refl _ _⟩
            · rw [if_neg (by rw [l48, l57]; omega)] at hd2
              have b1 : ¬ (c.toNat : Int) < 48 := by omega
              have b2 : ¬ 57 < (c.toNat : Int) := by omega
              by_cases hd0 : d = 0
              · rw [if_pos hd0] at hd2
                have td : ((d : Int) == 0) = true := by simp [hd0]
                have hn : Tab.afterScan false (Tab.scan (b.data.toList.drop (k + 1)) (A ++ b.extract k (k + 1)).data.toList B.data.toList d) = R := by
                  rw [ByteArray.data_append, Array.toList_append, hx]; exact hd2
                have HDA := Lib.hid (show Tab.Dig (A ++ b.extract k (k + 1)).data.toList by rw [ByteArray.data_append, Array.toList_append, hx]; exact hdig.out.1.append (fun x hx => by rw [List.mem_singleton] at hx; subst hx; omega))
                have HD := Lib.hid hn
                have HA2 := Lib.hid hA2
                have HXZ := Lib.hid hxz
                have hxz1 : (b.extract k (k + 1)).size ≤ 1 := by omega
                clear hd2 hcons hx hxz l48 l57 hA2 hB2 hc8 h46 hbad hd0 hn
                go_wp2
                go_round
                case rel => exact ⟨A ++ b.extract k (k + 1), B, d, k + 1, rfl, rfl, rfl, by go_num, by omega, HA2.out, by omega, by omega, Lib.hid (And.intro HDA.out hdig.out.2), HD.out⟩
                case measure => simp [RowKit.intOf]; omega
              · rw [if_neg hd0] at hd2
                have td : ((d : Int) == 0) = false := by simp [hd0]
                have hn : Tab.afterScan false (Tab.scan (b.data.toList.drop (k + 1)) A.data.toList (B ++ b.extract k (k + 1)).data.toList d) = R := by
                  rw [ByteArray.data_append, Array.toList_append, hx]; exact hd2
                have HDA := Lib.hid (show Tab.Dig (B ++ b.extract k (k + 1)).data.toList by rw [ByteArray.data_append, Array.toList_append, hx]; exact hdig.out.2.append (fun x hx => by rw [List.mem_singleton] at hx; subst hx; omega))
                have HD := Lib.hid hn
                have HB2 := Lib.hid hB2
                have hxz1 : (b.extract k (k + 1)).size ≤ 1 := by omega
                clear hd2 hcons hx hxz l48 l57 hA2 hB2 hc8 h46 hbad hd0 hn
                go_wp2
                go_round
                case rel => exact ⟨A, B ++ b.extract k (k + 1), d, k + 1, rfl, rfl, rfl, by go_num, by omega, by omega, HB2.out, by omega, Lib.hid (And.intro hdig.out.1 HDA.out), HD.out⟩
                case measure => simp [RowKit.intOf]; omega
        · have hke : k = b.data.toList.length := by rw [← size_eq]; omega
          have hend := hinv.out
          rw [hke, List.drop_length] at hend
          simp only [Tab.scan, Tab.afterScan] at hend
          have hAe : A.data.toList = [] ↔ A.size = 0 := by rw [size_eq]; exact List.length_eq_zero_iff.symm
          have hBe : B.data.toList = [] ↔ B.size = 0 := by rw [size_eq]; exact List.length_eq_zero_iff.symm
          rw [← size_eq B] at hend
          by_cases hc : 1 < d ∨ A.data.toList = [] ∨ d = 1 ∧ B.data.toList = [] ∨ 4 < B.size
          · rw [if_pos hc] at hend
            rw [hAe, hBe] at hc
            have HD := Lib.hid hend.symm
            clear hend hke hinv hAe hBe
            by_cases c1 : 1 < (d : Int)
            · clear hc
              go_wp2
              go_ret2
              exact ⟨by rw [HD.out]; rfl, Below.refl _ _⟩
            · by_cases c2 : A.size = 0
              · have t2 : ((A.size : Int) == 0) = true := by simp [c2]
                clear hc c2
                go_wp2
                go_ret2
                exact ⟨by rw [HD.out]; rfl, Below.refl _ _⟩
              · have t2 : ((A.size : Int) == 0) = false := by rw [beq_eq_false_iff_ne]; omega
                by_cases c3 : d = 1 ∧ B.size = 0
                · have t3 : ((d : Int) == 1) = true := by simp [c3.1]
                  have t4 : ((B.size : Int) == 0) = true := by simp [c3.2]
                  clear hc c2 c3
                  go_wp2
                  go_ret2
                  exact ⟨by rw [HD.out]; rfl, Below.refl _ _⟩
                · have c4 : 4 < (B.size : Int) := by omega
                  have c4' : 4 < B.size := by omega
                  have t4 : ((B.size : Int) == 0) = false := by rw [beq_eq_false_iff_ne]; omega
                  by_cases c5 : d = 1
                  · have t3 : ((d : Int) == 1) = true := by simp [c5]
                    clear hc c2 c3 c5
                    go_wp2
                    go_ret2
                    exact ⟨by rw [HD.out]; rfl, Below.refl _ _⟩
                  · have t3 : ((d : Int) == 1) = false := by rw [beq_eq_false_iff_ne]; omega
                    clear hc c2 c3 c5
                    go_wp2
                    go_ret2
                    exact ⟨by rw [HD.out]; rfl, Below.refl _ _⟩
          · rw [if_neg hc] at hend
            rw [hAe, hBe] at hc
            have c1 : ¬ 1 < (d : Int) := by omega
            have c2 : ((A.size : Int) == 0) = false := by rw [beq_eq_false_iff_ne]; omega
            have c4 : (B.size : Int) ≤ 4 := by omega
            have c34 : ((d : Int) == 1) = true ∧ ((B.size : Int) == 0) = false ∨ ((d : Int) == 1) = false := by
              by_cases c5 : d = 1
              · left; exact ⟨by simp [c5], by rw [beq_eq_false_iff_ne]; omega⟩
              · right; rw [beq_eq_false_iff_ne]; omega
            have HE := Lib.hid hend
            clear hend hke hinv hAe hBe hc
            rcases c34 with ⟨c5, c6⟩ | c5
            all_goals
              go_wp2_with (fail)
              go_loop [6] (fun v => ∃ (u : ByteArray) (j : Nat), v = .string u ∧ u.size ≤ 4 ∧ Hid (u.data.toList = B.data.toList ++ List.replicate j 48 ∧ u.size = B.size + j)) (fun v => match v with | .string u => 4 - u.size | _ => 0)
              case atStart => exact ⟨B, 0, rfl, by omega, by show _ = _ ++ []; rw [List.append_nil], rfl⟩
              case round =>
                obtain ⟨u, j, rfl, huz, hu⟩ := hrel
                by_cases hu4 : u.size < 4
                · have hd2 : (u ++ ⟨#[48]⟩ : ByteArray).data.toList = B.data.toList ++ List.replicate (j + 1) 48 := by
                    rw [ByteArray.data_append, Array.toList_append, hu.out.1, List.replicate_succ', List.append_assoc]
                  have hz2 : (u ++ ⟨#[48]⟩ : ByteArray).size = u.size + 1 := by rw [ByteArray.size_append]; rfl
                  have HD := Lib.hid hd2
                  have HZ := Lib.hid hz2
                  clear hd2 hz2
                  go_wp2
                  go_round
                  case rel => exact ⟨_, j + 1, rfl, by rw [HZ.out]; omega, HD.out, by rw [HZ.out, hu.out.2]; omega⟩
                  case measure => show 4 - (u ++ ⟨#[48]⟩ : ByteArray).size < 4 - u.size; rw [HZ.out]; omega
                · have hpad : u.data.toList = Tab.padR B.data.toList := by
                    have h1 := hu.out.1
                    have h2 := hu.out.2
                    unfold Tab.padR
                    rw [h1, ← size_eq, show j = 4 - B.size by omega]
                  obtain ⟨q, eq⟩ : ∃ q : ByteArray, q.data.toList = Tab.strip (A ++ u).data.toList := ⟨⟨(Tab.strip _).toArray⟩, rfl⟩
                  have hq2 : q.data.toList = Tab.strip (A.data.toList ++ Tab.padR B.data.toList) := by rw [eq, ByteArray.data_append, Array.toList_append, hpad]
                  have hqz : q.size ≤ 4294967296 := by
                    have h1 := (List.dropWhile_sublist (fun x => x == (48 : UInt8)) (l := (A ++ u).data.toList)).length_le
                    have h2 : q.data.toList.length ≤ (A ++ u).data.toList.length := by rw [eq]; exact h1
                    rw [← size_eq, ← size_eq, ByteArray.size_append] at h2
                    omega
                  have hval : Tab.valueR false q.data.toList = R := by rw [hq2]; exact HE.out
                  have HDQ := Lib.hid (show Tab.Dig q.data.toList by rw [hq2]; exact Tab.dig_strip (hdig.out.1.append (hdig.out.2.append (Tab.dig_zeros _))))
                  have HQ := Lib.hid eq
                  have HV := Lib.hid hval
                  have HQZ := Lib.hid hqz
                  clear hpad eq hq2 hval hqz
                  go_wp2_with (first
                    | (go_at_call 132; refine (strip_is _ q _ HQ.out).mono ?_; rintro e w' ⟨rfl, rfl⟩)
                    | (go_at_call 130; refine (value_gen false q R _ HQZ.out HV.out HDQ.out).mono ?_; rintro e w' ⟨rfl, rfl⟩))
                  go_ret2
                  exact ⟨rfl, Below.refl _ _⟩
end Go.Proofs.YtkobkeopajohiaaGreatDoor
