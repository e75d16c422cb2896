/-
  CONTRACT of deci.Parse: the number that is all of a text, for every text shorter than 4294967281 bytes; memory that was there stays as it was.
-/
import Derived.Test.YtkobkeopajohiaaGreatDoorC3
import Derived.LoopTactic
import Derived.Lib.ConvBytes

namespace Go.Proofs.YtkobkeopajohiaaGreatDoor
open Go.RowKit Go.Lib

theorem cutPrefix_is (s p b : ByteArray) (m : Bool) (w : World) (hb : b.data.toList = trimPrefix s.data.toList p.data.toList) (hm : m = hasPrefix s.data.toList p.data.toList) :
    Calls Tryz.prog 110 #[.string s, .string p] w fun e w' => e = .returned (.tuple #[.string b, .bool m]) ∧ w = w' := by
  refine (Tryz.strings_CutPrefix s p w).mono ?_
  rintro e w' ⟨rfl, rfl⟩
  refine ⟨?_, rfl⟩
  rw [← hb, ← hm]
theorem cut_is (s p a b : ByteArray) (d : Bool) (w : World) (hG : GM w) (hs : s.size < 4294967281) (ha : a.data.toList = (cut s.data.toList p.data.toList).1) (hb : b.data.toList = (cut s.data.toList p.data.toList).2.1) (hd : d = (cut s.data.toList p.data.toList).2.2) :
    Calls Tryz.prog 144 #[.string s, .string p] w fun e w' => e = .returned (.tuple #[.string a, .string b, .bool d]) ∧ ∃ n, w' = w.drewN n := by
  obtain ⟨m, hm⟩ := hG
  refine (Tryz.strings_Cut s p m w hs hm).mono ?_
  rintro e w' ⟨rfl, h⟩
  refine ⟨?_, h⟩
  rw [← ha, ← hb, ← hd]

theorem conv_bytes (W : World) (s : ByteArray) : (convert 9 59 (.string s)).run Tryz.prog W = .ok (.slice (some ⟨W.heap.size, 0, none⟩) s.size (grownCap W s.size 0 5)) (bytesWorld W 5 s) :=
  Lib.run_convert_string_bytes W 9 59 5 s Tryz.underlying9 Tryz.underlying59 Tryz.underlying5

theorem empty_iff (s : ByteArray) : s.toList.isEmpty = true ↔ s.data.toList = [] := by
  rw [toList_data]; exact List.isEmpty_iff

set_option maxHeartbeats 400000 in
set_option maxRecDepth 100000 in
theorem parse_any (s : ByteArray) (w : World) (hG : GM w) (hs : s.size < 4294967281) :
    Calls Tryz.prog 100 #[.string s] w fun e w' => e = .returned (.tuple #[.int .i64 (Tab.parse s.data.toList).1, .bool (Tab.parse s.data.toList).2]) ∧ Below w.heap.size w w' := by
  obtain ⟨b, eb⟩ : ∃ b : ByteArray, b.data.toList = trimPrefix s.data.toList [45] := ⟨⟨(trimPrefix _ _).toArray⟩, rfl⟩
  obtain ⟨m, em⟩ : ∃ m, m = hasPrefix s.data.toList [45] := ⟨_, rfl⟩
  obtain ⟨wh, ewh⟩ : ∃ x : ByteArray, x.data.toList = (cut b.data.toList [46]).1 := ⟨⟨((cut b.data.toList [46]).1).toArray⟩, rfl⟩
  obtain ⟨pt, ept⟩ : ∃ x : ByteArray, x.data.toList = (cut b.data.toList [46]).2.1 := ⟨⟨((cut b.data.toList [46]).2.1).toArray⟩, rfl⟩
  obtain ⟨d, ed⟩ : ∃ d, d = (cut b.data.toList [46]).2.2 := ⟨_, rfl⟩
  have hP : Tab.parse s.data.toList = Tab.parseBody m b.data.toList := by unfold Tab.parse; rw [em, eb]
  rw [hP]
  have bs : b.size ≤ 4294967280 := by
    have := size_eq s
    rw [size_eq, eb]; unfold trimPrefix; split
    · rw [List.length_drop]; omega
    · omega
  have hcl : (cut b.data.toList [46]).1.length + (cut b.data.toList [46]).2.1.length ≤ b.data.toList.length := by
    unfold cut
    split
    · simp only [List.length_take, List.length_drop, List.length_singleton]; omega
    · simp
  rw [← ewh, ← ept, ← size_eq, ← size_eq, ← size_eq] at hcl
  have HP := Lib.hid (cutPrefix_is s ⟨#[45]⟩ b m w eb em)
  have HC := Lib.hid (cut_is b ⟨#[46]⟩ wh pt d w hG (by omega) ewh ept ed)
  have hd2 : d = false → pt.size = 0 := by
    intro h
    rw [h] at ed
    rw [size_eq, ept]
    unfold cut at ed ⊢
    split at ed
    · cases ed
    · rename_i h; rw [if_neg h]; rfl
  clear eb em hP
  by_cases hbad : wh.data.toList = [] ∨ d = true ∧ (pt.data.toList = [] ∨ 4 < pt.size)
  · have hfin : Tab.parseBody m b.data.toList = (0, false) := by
      unfold Tab.parseBody
      rw [← ewh, ← ept, ← ed, ← size_eq, if_pos hbad]
    rw [hfin]
    clear hfin ewh ept ed hd2
    by_cases hw0 : wh.toList.isEmpty = true
    · clear hbad hG
      go_enter Tryz.func100, Tryz.ntmps100
      go_wp2_with (first
        | (go_at_call 110; refine HP.out.mono ?_; rintro e w' ⟨rfl, rfl⟩)
        | (go_at_call 144; refine HC.out.mono ?_; rintro e w' ⟨rfl, n, rfl⟩))
      go_ret2
      exact ⟨rfl, below_drewN (Below.refl _ _) _⟩
    · have hw1 : wh.toList.isEmpty = false := by simpa using hw0
      have hb2 : d = true ∧ (pt.data.toList = [] ∨ 4 < pt.size) := by
        rcases hbad with h | h
        · exact absurd ((empty_iff wh).2 h) hw0
        · exact h
      obtain ⟨rfl, hb3⟩ := hb2
      clear hbad hG hw0
      by_cases hp0 : pt.toList.isEmpty = true
      · clear hb3
        go_enter Tryz.func100, Tryz.ntmps100
        go_wp2_with (first
          | (go_at_call 110; refine HP.out.mono ?_; rintro e w' ⟨rfl, rfl⟩)
          | (go_at_call 144; refine HC.out.mono ?_; rintro e w' ⟨rfl, n, rfl⟩))
        go_ret2
        exact ⟨rfl, below_drewN (Below.refl _ _) _⟩
      · have hp1 : pt.toList.isEmpty = false := by simpa using hp0
        have hp2 : 4 < pt.size := by
          rcases hb3 with h | h
          · exact absurd ((empty_iff pt).2 h) hp0
          · exact h
        clear hb3 hp0
        go_enter Tryz.func100, Tryz.ntmps100
        go_wp2_with (first
          | (go_at_call 110; refine HP.out.mono ?_; rintro e w' ⟨rfl, rfl⟩)
          | (go_at_call 144; refine HC.out.mono ?_; rintro e w' ⟨rfl, n, rfl⟩))
        go_ret2
        exact ⟨rfl, below_drewN (Below.refl _ _) _⟩
  · have hfin : Tab.parseBody m b.data.toList = Tab.valOf m (Tab.digs 0 (wh.data.toList ++ (pt.data.toList ++ [48, 48, 48, 48].drop pt.data.toList.length))) := by
      unfold Tab.parseBody
      rw [← ewh, ← ept, ← ed]
      rw [size_eq] at hbad
      rw [if_neg hbad]
    rw [hfin]
    generalize hR : Tab.valOf m (Tab.digs 0 (wh.data.toList ++ (pt.data.toList ++ [48, 48, 48, 48].drop pt.data.toList.length))) = R
    have HR := Lib.hid hR
    clear hR
    have hw0 : wh.toList.isEmpty = false := by
      have := mt (empty_iff wh).1 (fun h => hbad (.inl h))
      simpa using this
    have hpt4 : pt.size ≤ 4 := by
      cases hdd : d with
      | false => have := hd2 hdd; omega
      | true => have := Nat.not_lt.1 fun h => hbad (.inr ⟨hdd, .inr h⟩); omega
    have hgd : d = false ∨ d = true ∧ pt.toList.isEmpty = false := by
      cases hdd : d with
      | false => exact .inl rfl
      | true =>
        refine .inr ⟨rfl, ?_⟩
        have := mt (empty_iff pt).1 (fun h => hbad (.inr ⟨hdd, .inl h⟩))
        simpa using this
    have HB := Lib.hid hbad
    have hG1 : ∀ n, GM (w.drewN n) := fun n => hG.below (below_drewN (Below.refl _ _) n)
    clear hbad ewh ept ed hd2 hfin hG
    have hcv := conv_bytes
    have hlast : ∀ (W W1 : World) (S : ByteArray), W.heap.size = w.heap.size → bytesWorld W 5 S = W1 → ∀ k, k < S.size → W1.cell? ⟨w.heap.size, k, none⟩ = some (.int .u8 (S.data.toList.getD k 0).toNat) := by
      rintro W _ S hh rfl k hk
      rw [← hh]
      exact bytesWorld_cell W 5 S k hk
    have hsz : ∀ S : ByteArray, wh ++ pt ++ (ByteArray.mk #[48, 48, 48, 48]).extract pt.size 4 = S → S.size = wh.size + pt.size + (4 - pt.size) ∧ S.data.toList = wh.data.toList ++ (pt.data.toList ++ [48, 48, 48, 48].drop pt.data.toList.length) := by
      rintro _ rfl
      have e4 : ((ByteArray.mk #[48, 48, 48, 48]).extract pt.size 4).data.toList = [48, 48, 48, 48].drop pt.data.toList.length := by
        rw [extract_data, ← size_eq]
        exact List.take_of_length_le (by simp)
      refine ⟨?_, ?_⟩
      · rw [ByteArray.size_append, ByteArray.size_append, size_eq (ByteArray.extract _ _ _), e4, List.length_drop, ← size_eq]; rfl
      · rw [ByteArray.data_append, ByteArray.data_append, Array.toList_append, Array.toList_append, e4, List.append_assoc]
    have HL := Lib.hid hlast
    have HZ := Lib.hid hsz
    clear hlast hsz
    rcases hgd with rfl | ⟨rfl, hp1⟩
    all_goals
      go_enter Tryz.func100, Tryz.ntmps100
      go_wp2_with (first
        | (go_at_call 110; refine HP.out.mono ?_; rintro e w' ⟨rfl, rfl⟩)
        | (go_at_call 144; refine HC.out.mono ?_; rintro e w' ⟨rfl, n, rfl⟩))
      clear hcv
      have hbel : ∀ S, Below w.heap.size w (bytesWorld (w.drewN n) 5 S) := fun S => (below_drewN (Below.refl _ _) n).trans ⟨rfl, rfl, rfl, by rw [bytesWorld_size]; exact Nat.le_succ _, fun i hi => bytesWorld_at_old _ _ _ i hi⟩
      generalize hS : wh ++ pt ++ (ByteArray.mk #[48, 48, 48, 48]).extract pt.size 4 = S
      obtain ⟨z1, z2⟩ := HZ.out S hS
      have hB := hbel S
      generalize hW : bytesWorld (w.drewN n) 5 S = W1 at hB ⊢
      have hc := HL.out (w.drewN n) W1 S rfl hW
      rw [z1] at hc
      have Z2 := Lib.hid z2
      have HCE := Lib.hid hc
      have Hlen : Hid (S.data.toList.length = wh.size + pt.size + (4 - pt.size)) := by rw [← size_eq]; exact z1
      clear hS hW hbel z1 z2 hc HL HZ
      go_loop [9, 46] (fun v i => ∃ k x : Nat, v = .int .u64 x ∧ i = .int .i64 k ∧ k ≤ wh.size + pt.size + (4 - pt.size) ∧ x ≤ 999999999999999999 ∧ Hid (Tab.digs x (S.data.toList.drop k) = Tab.digs 0 S.data.toList)) (fun _ i => wh.size + pt.size + (4 - pt.size) - (RowKit.intOf i).toNat)
      case atStart => exact ⟨0, 0, rfl, rfl, by omega, by omega, rfl⟩
      case round =>
        obtain ⟨k, x, rfl, rfl, hk, hx, hd⟩ := hrel
        by_cases hlt : k < wh.size + pt.size + (4 - pt.size)
        · have hcell := HCE.out k hlt
          have hcons : S.data.toList.drop k = S.data.toList.getD k 0 :: S.data.toList.drop (k + 1) := by
            rw [List.drop_eq_getElem_cons (by rw [Hlen.out]; exact hlt), List.getD_eq_getElem?_getD, List.getElem?_eq_getElem (by rw [Hlen.out]; exact hlt)]
            rfl
          have hd2 := hd.out
          rw [hcons] at hd2
          simp only [Tab.digs] at hd2
          generalize S.data.toList.getD k 0 = c at *
          have hc8 := c.toNat_lt
          have hc9 : (c.toNat : Int) < 256 := by omega
          have hc0 : c < 48 ↔ (c.toNat : Int) < 48 := by rw [UInt8.lt_iff_toNat_lt]; show c.toNat < 48 ↔ _; omega
          have hc1 : 57 < c ↔ 57 < (c.toNat : Int) := by rw [UInt8.lt_iff_toNat_lt]; show 57 < c.toNat ↔ _; omega
          have hbad : ((c.toNat : Int) < 48 ∨ 57 < (c.toNat : Int) ∨ 99999999999999999 < x) → none = Tab.digs 0 S.data.toList := fun h => by
            rw [if_pos (by rw [hc0, hc1]; exact h)] at hd2; exact hd2
          have hgood : ¬ ((c.toNat : Int) < 48 ∨ 57 < (c.toNat : Int) ∨ 99999999999999999 < x) → Tab.digs (10 * x + (c.toNat - 48)) (List.drop (k + 1) S.data.toList) = Tab.digs 0 S.data.toList := fun h => by
            rw [if_neg (by rw [hc0, hc1]; exact h)] at hd2; exact hd2
          have HD := Lib.hid hbad
          have HD3 := Lib.hid hgood
          clear hd2 hcons hc0 hc1 hd hc8 hbad hgood
          by_cases b1 : (c.toNat : Int) < 48
          · go_wp2
            go_ret2
            refine ⟨?_, hB⟩
            have := HD.out (.inl b1)
            rw [Z2.out] at this
            have hr : R = (0, false) := by rw [← HR.out, ← this]; rfl
            rw [hr]; rfl
          · by_cases b2 : 57 < (c.toNat : Int)
            · go_wp2
              go_ret2
              refine ⟨?_, hB⟩
              have := HD.out (.inr (.inl b2))
              rw [Z2.out] at this
              have hr : R = (0, false) := by rw [← HR.out, ← this]; rfl
              rw [hr]; rfl
            · by_cases b3 : 99999999999999999 < (x : Int)
              · go_wp2
                go_ret2
                refine ⟨?_, hB⟩
                have := HD.out (.inr (.inr (by omega)))
                rw [Z2.out] at this
                have hr : R = (0, false) := by rw [← HR.out, ← this]; rfl
                rw [hr]; rfl
              · have hd3 := Lib.hid (HD3.out (by omega))
                clear HD3 HD
                go_wp2
                go_round
                case rel => exact ⟨k + 1, 10 * x + (c.toNat - 48), by go_num, by go_num, by omega, by omega, hd3.out⟩
                case measure => simp [RowKit.intOf]; omega
        · have hke : k = S.data.toList.length := by rw [Hlen.out]; omega
          have hend := hd.out
          rw [hke, List.drop_length] at hend
          simp only [Tab.digs] at hend
          rw [Z2.out] at hend
          have HE := Lib.hid hend
          clear hend hd hke
          go_wp2_with (first
            | (go_at_call 116; refine (made_any m x _ (by omega)).mono ?_; rintro e w' ⟨rfl, rfl⟩))
          go_ret2
          refine ⟨?_, hB⟩
          have hr : R = Tab.made m x := by rw [← HR.out, ← HE.out]; rfl
          rw [hr]; rfl
end Go.Proofs.YtkobkeopajohiaaGreatDoor
