/-
  CONTRACT of the reference's Inc: one more, of digits; a slice of bytes of the call's own.
-/
import Derived.Test.YtkobkeopajohiaaGreatDoorC5
import Derived.Test.YtkobkeopajohiaaGreatDoorPl3
import Derived.LoopTactic
import Derived.Lib.ConvBytes
import Derived.Laws.IdiomStrings

namespace Go.Proofs.YtkobkeopajohiaaGreatDoor
open Go.RowKit Go.Lib

/-- a block of the call's own: its first bytes read as the list -/
def BytesAt (w : World) (b : Nat) (l : List UInt8) : Prop :=
  ∀ j, j < l.length → w.cell? ⟨b, j, none⟩ = some (.int .u8 (l.getD j 0).toNat) ∧ w.frozen? ⟨b, j, none⟩ = false

theorem bytesAt_conv (W : World) (s : ByteArray) : BytesAt (bytesWorld W 5 s) W.heap.size s.data.toList := fun j hj => by
  have hj' : j < s.size := by rw [size_eq]; exact hj
  refine ⟨bytesWorld_cell W 5 s j hj', ?_⟩
  have hsz : s.size ≤ (bytesCells W 5 s).size := by simp [bytesCells]
  simp only [World.frozen?, bytesWorld_at_new]
  have : ¬ (bytesCells W 5 s).size ≤ j := by omega
  simp [this]

theorem BytesAt.set {w : World} {b : Nat} {l : List UInt8} (h : BytesAt w b l) (i : Nat) (hi : i < l.length) (c : UInt8) : BytesAt (w.setCell ⟨b, i, none⟩ (.int .u8 (c.toNat : Int))) b (l.set i c) := fun j hj => by
  rw [List.length_set] at hj
  obtain ⟨h1, h2⟩ := h j hj
  obtain ⟨h3, _⟩ := h i hi
  by_cases e : j = i
  · subst e
    refine ⟨?_, ?_⟩
    · rw [World.cell?_setCell_same _ _ _ h3]
      simp [hi]
    · rw [World.frozen?_setCell]; exact h2
  · refine ⟨?_, ?_⟩
    · rw [World.cell?_setCell_other _ _ _ _ (by simp), h1]
      simp [List.getD_eq_getElem?_getD, Ne.symm e]
    · rw [World.frozen?_setCell]; exact h2

theorem BytesAt.back {w : World} {b : Nat} {l : List UInt8} (h : BytesAt w b l) (n cap : Nat) (hn : l.length = n) :
    (convert 59 9 (.slice (some ⟨b, 0, none⟩) n cap)).run Tryz.prog w = .ok (.string ⟨l.toArray⟩) w := by
  subst hn
  refine run_convert_bytes_back w 59 9 5 ⟨b, 0, none⟩ cap l Tryz.underlying59 Tryz.underlying5 Tryz.underlying9 fun j hj => ?_
  rw [Go.WideShapes.add_plain, Nat.zero_add, (h j hj).1]
  simp [List.getD_eq_getElem?_getD, List.getElem?_eq_getElem hj]

theorem inc_any (s : ByteArray) (w : World) (hs : s.size ≤ 4294967296) :
    Calls Tryz.prog 143 #[.string s] w fun e w' => e = .returned (.string ⟨(Tab.inc s.data.toList).toArray⟩) ∧ Below w.heap.size w w' := by
  have hcv := conv_bytes
  have h1 : (s.size : Int) ≤ 4294967296 := by omega
  have hba := Lib.hid (bytesAt_conv w s)
  have hbel : Below w.heap.size w (bytesWorld w 5 s) := ⟨rfl, rfl, rfl, by rw [bytesWorld_size]; exact Nat.le_succ _, fun i hi => bytesWorld_at_old _ _ _ i hi⟩
  generalize hL : s.data.toList = L at *
  have hlen : Hid (L.length = s.size) := by rw [← hL, ← size_eq]; rfl
  clear hL
  generalize hR : Tab.inc L = R
  have HR := Lib.hid hR
  clear hR
  go_enter Tryz.func143, Tryz.ntmps143
  go_wp2
  clear hcv
  generalize bytesWorld w 5 s = W1 at *
  go_loopw [4] (fun vi wr => ∃ (v : Int) (j : Nat) (M : List UInt8), vi = .int .i64 v ∧ v ≤ (j : Int) - 1 ∧ (j : Int) - 1 ≤ v ∧ j ≤ s.size ∧ Hid (M.length = s.size) ∧ BytesAt wr w.heap.size M ∧ Below w.heap.size w wr ∧ Hid (M = L.take j ++ List.replicate (s.size - j) 48 ∧ Tab.inc L = Tab.inc (L.take j) ++ List.replicate (s.size - j) 48)) (fun vi _ => (RowKit.intOf vi + 1).toNat)
  case atStart =>
    refine ⟨_, s.size, L, rfl, by omega, by omega, Nat.le_refl _, hlen.out, hba.out, hbel, ?_, ?_⟩
    · rw [Nat.sub_self, List.replicate_zero, List.append_nil, ← hlen.out, List.take_length]
    · rw [Nat.sub_self, List.replicate_zero, List.append_nil, ← hlen.out, List.take_length]
  case round =>
    obtain ⟨v, j, M, rfl, v1, v2, hj, hml, hbt, hbw, hinv⟩ := hrel
    clear hba hbel
    rcases j with _ | k
    · obtain rfl : v = -1 := by omega
      have hback := fun cap => hbt.back s.size cap hml.out
      have hMs : M.length ≤ 4294967296 := by rw [hml.out]; omega
      have HBT := Lib.hid hbt
      have hfin : (⟨#[49]⟩ ++ ⟨M.toArray⟩ : ByteArray).data.toList = R := by
        rw [← HR.out, hinv.out.2, ByteArray.data_append, Array.toList_append, hinv.out.1]
        simp [Tab.inc, Tab.incR]
      have HF := Lib.hid hfin
      clear hbt hfin v1 v2
      go_wp2
      go_ret
      exact ⟨ret_str HF.out, hbw⟩
    · obtain rfl : v = k := by omega
      have hkL : k < L.length := by rw [hlen.out]; omega
      have htk : L.take (k + 1) = L.take k ++ [L.getD k 0] := by
        rw [List.take_succ_eq_append_getElem hkL, List.getD_eq_getElem?_getD, List.getElem?_eq_getElem hkL]; rfl
      have hMk : M.getD k 0 = L.getD k 0 := by
        rw [hinv.out.1, htk, List.append_assoc, List.getD_eq_getElem?_getD, List.getElem?_append_right (by rw [List.length_take]; omega)]
        rw [List.length_take, Nat.min_eq_left (by omega), Nat.sub_self]; rfl
      obtain ⟨hcell, hz⟩ := hbt k (by rw [hml.out]; omega)
      rw [hMk] at hcell
      have hinc := Tab.inc_snoc (L.take k) (L.getD k 0)
      rw [← htk] at hinc
      have hset : ∀ x : UInt8, M.set k x = L.take k ++ x :: List.replicate (s.size - (k + 1)) 48 := by
        intro x
        rw [hinv.out.1, htk, List.append_assoc, List.set_append_right _ _ (by rw [List.length_take]; omega), List.length_take, Nat.min_eq_left (by omega), Nat.sub_self]
        rfl
      generalize L.getD k 0 = c at *
      have hc8 := c.toNat_lt
      have hc9 : (c.toNat : Int) < 256 := by omega
      have hlt : c < 57 ↔ (c.toNat : Int) < 57 := by rw [UInt8.lt_iff_toNat_lt]; show c.toNat < 57 ↔ _; omega
      have hbs := fun x => hbt.set k (by rw [hml.out]; omega) x
      by_cases h57 : (c.toNat : Int) < 57
      · have e1 : ((c + 1).toNat : Int) = (c.toNat : Int) + 1 := by rw [UInt8.toNat_add]; show (((c.toNat + 1) % 256 : Nat) : Int) = _; omega
        have hb1 := hbs (c + 1)
        rw [e1] at hb1
        have hback := fun cap => hb1.back s.size cap (by rw [List.length_set]; exact hml.out)
        have hfin : M.set k (c + 1) = R := by
          rw [hset, ← HR.out, hinv.out.2, hinc, if_pos (hlt.2 h57), List.append_assoc]; rfl
        have hbw2 : Below w.heap.size w (wr.setCell ⟨w.heap.size, k, none⟩ (.int .u8 ((c.toNat : Int) + 1))) := hbw.setCell (Nat.le_refl _) _
        rw [hfin] at hback
        clear hbt hfin v1 v2 hMk hinc hset hlt hbs htk e1 hb1 hc8
        go_wp2
        go_ret
        exact ⟨rfl, hbw2⟩
      · have hb1 := hbs 48
        have hM2 : M.set k 48 = L.take k ++ List.replicate (s.size - k) 48 := by
          rw [hset, show s.size - k = (s.size - (k + 1)) + 1 by omega, List.replicate_succ]
        have hI2 : Tab.inc L = Tab.inc (L.take k) ++ List.replicate (s.size - k) 48 := by
          rw [hinv.out.2, hinc, if_neg (fun e => h57 (hlt.1 e)), List.append_assoc, show s.size - k = (s.size - (k + 1)) + 1 by omega, List.replicate_succ]; try rfl
        have hl2 : Hid ((M.set k 48).length = s.size) := by rw [List.length_set]; exact hml.out
        have HI := Lib.hid (And.intro hM2 hI2)
        have hbw2 : Below w.heap.size w (wr.setCell ⟨w.heap.size, k, none⟩ (.int .u8 48)) := hbw.setCell (Nat.le_refl _) _
        have hb2 : BytesAt (wr.setCell ⟨w.heap.size, k, none⟩ (.int .u8 48)) w.heap.size (M.set k 48) := hb1
        clear hbt v1 v2 hMk hinc hset hlt hbs htk hb1 hc8 hM2 hI2
        go_wp2
        go_roundw
        case rel => exact ⟨_, k, M.set k 48, rfl, by omega, by omega, by omega, hl2, hb2, hbw2, HI.out⟩
        case measure => simp [RowKit.intOf]
end Go.Proofs.YtkobkeopajohiaaGreatDoor
