/-
  CONTRACT of value.Great: with great letters, byte by byte.
-/
import Derived.Test.YtkobkeopajohiaaGreatDoorR1
import Derived.Lib.Case
namespace Go.Proofs.YtkobkeopajohiaaGreatDoor
open Go.RowKit Go.Lib

theorem upper_lo (c : UInt8) (h : ¬ (97 ≤ (c.toNat : Int) ∧ (c.toNat : Int) ≤ 122)) : upperB c = c :=
  upperB_of_not c (by rw [isLowerB_int]; simp only [Bool.and_eq_false_iff, decide_eq_false_iff_not]; omega)
theorem upper_hi (c : UInt8) (h : 97 ≤ (c.toNat : Int) ∧ (c.toNat : Int) ≤ 122) : upperB c = c - 32 ∧ ((c - 32).toNat : Int) = c.toNat - 32 := by
  have hl : isLowerB c = true := by rw [isLowerB_int]; simp [h.1, h.2]
  refine ⟨by unfold upperB; rw [hl]; rfl, ?_⟩
  have : (32 : UInt8) ≤ c := by rw [UInt8.le_iff_toNat_le]; show 32 ≤ c.toNat; omega
  rw [UInt8.toNat_sub_of_le _ _ this]; show ((c.toNat - 32 : Nat) : Int) = _; omega
def great (s : ByteArray) : ByteArray := ⟨(s.data.toList.map upperB).toArray⟩
set_option maxHeartbeats 1600000 in
set_option maxRecDepth 100000 in
theorem great_any (s : ByteArray) (w : World) (hs : s.size ≤ 4294967296) :
    Calls Tryz.prog 88 #[.string s] w fun e w' => e = .returned (.string (great s)) ∧ Below w.heap.size w w' := by
  have hcv := conv_bytes
  have h1 : (s.size : Int) ≤ 4294967296 := by omega
  have hba := Lib.hid (bytesAt_conv w s)
  have hbel : Below w.heap.size w (bytesWorld w 5 s) := ⟨rfl, rfl, rfl, by rw [bytesWorld_size]; exact Nat.le_succ _, fun i hi => bytesWorld_at_old _ _ _ i hi⟩
  unfold great
  generalize hL : s.data.toList = L at *
  have hlen : Hid (L.length = s.size) := by rw [← hL, ← size_eq]; rfl
  clear hL
  generalize hR : L.map upperB = R
  have HR := Lib.hid hR
  clear hR
  go_enter Tryz.func88, Tryz.ntmps88
  go_wp2
  clear hcv
  generalize bytesWorld w 5 s = W1 at *
  go_loopw [10] (fun vi wr => ∃ (j : Nat) (M : List UInt8), vi = .int .i64 j ∧ j ≤ s.size ∧ Hid (M.length = s.size) ∧ BytesAt wr w.heap.size M ∧ Below w.heap.size w wr ∧ Hid (M = (L.take j).map upperB ++ L.drop j))
    (fun vi _ => s.size - (RowKit.intOf vi).toNat)
  case atStart =>
    exact ⟨0, L, rfl, Nat.zero_le _, hlen, hba.out, hbel, Lib.hid (by simp)⟩
  case round =>
    obtain ⟨j, M, rfl, hj, hml, hbt, hbw, hinv⟩ := hrel
    clear hba hbel
    by_cases hjs : j < s.size
    · have hjL : j < L.length := by rw [hlen.out]; exact hjs
      have hd : L.drop j = L.getD j 0 :: L.drop (j + 1) := by
        rw [List.drop_eq_getElem_cons hjL, List.getD_eq_getElem?_getD, List.getElem?_eq_getElem hjL]; rfl
      have ht : L.take (j + 1) = L.take j ++ [L.getD j 0] := by
        rw [List.take_succ_eq_append_getElem hjL, List.getD_eq_getElem?_getD, List.getElem?_eq_getElem hjL]; rfl
      have hMj : M.getD j 0 = L.getD j 0 := by
        rw [hinv.out, List.getD_eq_getElem?_getD, List.getElem?_append_right (by rw [List.length_map, List.length_take]; omega), hd]
        rw [List.length_map, List.length_take, Nat.min_eq_left (by omega), Nat.sub_self]; rfl
      obtain ⟨hcell, hz⟩ := hbt j (by rw [hml.out]; omega)
      rw [hMj] at hcell
      have hset : ∀ x : UInt8, M.set j x = (L.take j).map upperB ++ x :: L.drop (j + 1) := by
        intro x
        rw [hinv.out, hd, List.set_append_right _ _ (by rw [List.length_map, List.length_take]; omega), List.length_map, List.length_take, Nat.min_eq_left (by omega), Nat.sub_self]
        rfl
      generalize L.getD j 0 = c at *
      have hc8 := c.toNat_lt
      have hc9 : (c.toNat : Int) < 256 := by omega
      have hbs := fun x => hbt.set j (by rw [hml.out]; omega) x
      by_cases hlow : 97 ≤ (c.toNat : Int) ∧ (c.toNat : Int) ≤ 122
      · obtain ⟨e1, e2⟩ := upper_hi c hlow
        have hb1 := hbs (c - 32)
        rw [e2] at hb1
        have HM : Hid (M.set j (c - 32) = (L.take (j + 1)).map upperB ++ L.drop (j + 1)) := Lib.hid (by rw [hset, ht, List.map_append, List.map_cons, e1, List.append_assoc]; rfl)
        have hbw2 : Below w.heap.size w (wr.setCell ⟨w.heap.size, j, none⟩ (.int .u8 ((c.toNat : Int) - 32))) := hbw.setCell (Nat.le_refl _) _
        have hl2 : Hid ((M.set j (c - 32)).length = s.size) := by rw [List.length_set]; exact hml.out
        clear hbt hMj hset hbs ht e1 e2 hc8 hd
        obtain ⟨hl7, hl8⟩ := hlow
        go_wp2
        go_roundw
        case rel => exact ⟨j + 1, _, rfl, by omega, hl2, hb1, hbw2, HM⟩
        case measure => simp [RowKit.intOf]; omega
      · have HM : Hid (M = (L.take (j + 1)).map upperB ++ L.drop (j + 1)) := Lib.hid (by rw [hinv.out, hd, ht, List.map_append, List.map_cons, upper_lo c hlow, List.append_assoc]; rfl)
        clear hMj hset hbs ht hc8 hd
        by_cases hl7 : 97 ≤ (c.toNat : Int)
        · have hl8 : ¬ (c.toNat : Int) ≤ 122 := fun h => hlow ⟨hl7, h⟩
          clear hlow
          go_wp2
          go_roundw
          case rel => exact ⟨j + 1, _, rfl, by omega, hml, hbt, hbw, HM⟩
          case measure => simp [RowKit.intOf]; omega
        · clear hlow
          go_wp2
          go_roundw
          case rel => exact ⟨j + 1, _, rfl, by omega, hml, hbt, hbw, HM⟩
          case measure => simp [RowKit.intOf]; omega
    · obtain rfl : j = s.size := by omega
      have hfin : M = R := by
        rw [hinv.out, ← HR.out, ← hlen.out, List.take_length, List.drop_length, List.append_nil]
      have hback := fun cap => hbt.back s.size cap hml.out
      rw [hfin] at hback
      clear hfin hbt hinv
      go_wp2
      go_ret
      exact ⟨rfl, hbw⟩
end Go.Proofs.YtkobkeopajohiaaGreatDoor
