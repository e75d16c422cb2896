/-
  CONTRACT of the reference's Inc: one more, of digits; a slice of bytes of the call's own.
  CONTRACTS of the reference's functions of digits: Size, Strip, Value, Digits.
  CONTRACT of the reference's Cut: digits without the last ones, halves up.
  CONTRACTS of the reference's fit, Mod, Floor, Ceil, and of the law's same.
  CONTRACT of the reference's Round.
  CONTRACT of the reference's Trunc.
  CONTRACTS of the law's Cut and of deci.Int.
-/
import Derived.Test.YtkobkeopajohiaaGreatDoorCC
import Derived.Test.YtkobkeopajohiaaGreatDoorPL
import Derived.LoopTactic
import Derived.Lib.ConvBytes
import Derived.Laws.IdiomStrings
import Derived.Deep.QuietTactic
import Derived.BigQuiet
namespace Go.Proofs.YtkobkeopajohiaaGreatDoor
open Go.RowKit Go.Lib

/-- a block of the call's own: its first bytes read as the list -/
def BytesAt (w : World) (b : Nat) (l : List UInt8) : Prop :=
  ∀ j, j < l.length → w.cell? ⟨b, j, none⟩ = some (.int .u8 (l.getD j 0).toNat) ∧ w.frozen? ⟨b, j, none⟩ = false

theorem bytesAt_conv (W : World) (s : ByteArray) : BytesAt (bytesWorld W 5 s) W.heap.size s.data.toList := fun j hj => by
  have hj' : j < s.size := by rw [size_eq]; exact hj
  refine ⟨bytesWorld_cell W 5 s j hj', ?_⟩
  have hsz : s.size ≤ (bytesCells W 5 s).size := by simp [bytesCells]
  simp only [World.frozen?, bytesWorld_at_new]
  have : ¬ (bytesCells W 5 s).size ≤ j := by omega
  simp [this]

theorem BytesAt.set {w : World} {b : Nat} {l : List UInt8} (h : BytesAt w b l) (i : Nat) (hi : i < l.length) (c : UInt8) : BytesAt (w.setCell ⟨b, i, none⟩ (.int .u8 (c.toNat : Int))) b (l.set i c) := fun j hj => by
  rw [List.length_set] at hj
  obtain ⟨h1, h2⟩ := h j hj
  obtain ⟨h3, _⟩ := h i hi
  by_cases e : j = i
  · subst e
    refine ⟨?_, ?_⟩
    · rw [World.cell?_setCell_same _ _ _ h3]
      simp [hi]
    · rw [World.frozen?_setCell]; exact h2
  · refine ⟨?_, ?_⟩
    · rw [World.cell?_setCell_other _ _ _ _ (by simp), h1]
      simp [List.getD_eq_getElem?_getD, Ne.symm e]
    · rw [World.frozen?_setCell]; exact h2

theorem BytesAt.back {w : World} {b : Nat} {l : List UInt8} (h : BytesAt w b l) (n cap : Nat) (hn : l.length = n) :
    (convert 59 9 (.slice (some ⟨b, 0, none⟩) n cap)).run Tryz.prog w = .ok (.string ⟨l.toArray⟩) w := by
  subst hn
  refine run_convert_bytes_back w 59 9 5 ⟨b, 0, none⟩ cap l Tryz.underlying59 Tryz.underlying5 Tryz.underlying9 fun j hj => ?_
  rw [Go.WideShapes.add_plain, Nat.zero_add, (h j hj).1]
  simp [List.getD_eq_getElem?_getD, List.getElem?_eq_getElem hj]

theorem inc_any (s : ByteArray) (w : World) (hs : s.size ≤ 4294967296) :
    Calls Tryz.prog 143 #[.string s] w fun e w' => e = .returned (.string ⟨(Tab.inc s.data.toList).toArray⟩) ∧ Below w.heap.size w w' := by
  have hcv := conv_bytes
  have h1 : (s.size : Int) ≤ 4294967296 := by omega
  have hba := Lib.hid (bytesAt_conv w s)
  have hbel : Below w.heap.size w (bytesWorld w 5 s) := ⟨rfl, rfl, rfl, by rw [bytesWorld_size]; exact Nat.le_succ _, fun i hi => bytesWorld_at_old _ _ _ i hi⟩
  generalize hL : s.data.toList = L at *
  have hlen : Hid (L.length = s.size) := by rw [← hL, ← size_eq]; rfl
  clear hL
  generalize hR : Tab.inc L = R
  have HR := Lib.hid hR
  clear hR
  go_enter Tryz.func143, Tryz.ntmps143
  go_wp2
  clear hcv
  generalize bytesWorld w 5 s = W1 at *
  go_loopw [4] (fun vi wr => ∃ (v : Int) (j : Nat) (M : List UInt8), vi = .int .i64 v ∧ v ≤ (j : Int) - 1 ∧ (j : Int) - 1 ≤ v ∧ j ≤ s.size ∧ Hid (M.length = s.size) ∧ BytesAt wr w.heap.size M ∧ Below w.heap.size w wr ∧ Hid (M = L.take j ++ List.replicate (s.size - j) 48 ∧ Tab.inc L = Tab.inc (L.take j) ++ List.replicate (s.size - j) 48)) (fun vi _ => (RowKit.intOf vi + 1).toNat)
  case atStart =>
    refine ⟨_, s.size, L, rfl, by omega, by omega, Nat.le_refl _, hlen.out, hba.out, hbel, ?_, ?_⟩
    · rw [Nat.sub_self, List.replicate_zero, List.append_nil, ← hlen.out, List.take_length]
    · rw [Nat.sub_self, List.replicate_zero, List.append_nil, ← hlen.out, List.take_length]
  case round =>
    obtain ⟨v, j, M, rfl, v1, v2, hj, hml, hbt, hbw, hinv⟩ := hrel
    clear hba hbel
    rcases j with _ | k
    · obtain rfl : v = -1 := by omega
      have hback := fun cap => hbt.back s.size cap hml.out
      have hMs : M.length ≤ 4294967296 := by rw [hml.out]; omega
      have HBT := Lib.hid hbt
      have hfin : (⟨#[49]⟩ ++ ⟨M.toArray⟩ : ByteArray).data.toList = R := by
        rw [← HR.out, hinv.out.2, ByteArray.data_append, Array.toList_append, hinv.out.1]
        simp [Tab.inc, Tab.incR]
      have HF := Lib.hid hfin
      clear hbt hfin v1 v2
      go_wp2
      go_ret
      exact ⟨ret_str HF.out, hbw⟩
    · obtain rfl : v = k := by omega
      have hkL : k < L.length := by rw [hlen.out]; omega
      have htk : L.take (k + 1) = L.take k ++ [L.getD k 0] := by
        rw [List.take_succ_eq_append_getElem hkL, List.getD_eq_getElem?_getD, List.getElem?_eq_getElem hkL]; rfl
      have hMk : M.getD k 0 = L.getD k 0 := by
        rw [hinv.out.1, htk, List.append_assoc, List.getD_eq_getElem?_getD, List.getElem?_append_right (by rw [List.length_take]; omega)]
        rw [List.length_take, Nat.min_eq_left (by omega), Nat.sub_self]; rfl
      obtain ⟨hcell, hz⟩ := hbt k (by rw [hml.out]; omega)
      rw [hMk] at hcell
      have hinc := Tab.inc_snoc (L.take k) (L.getD k 0)
      rw [← htk] at hinc
      have hset : ∀ x : UInt8, M.set k x = L.take k ++ x :: List.replicate (s.size - (k + 1)) 48 := by
        intro x
        rw [hinv.out.1, htk, List.append_assoc, List.set_append_right _ _ (by rw [List.length_take]; omega), List.length_take, Nat.min_eq_left (by omega), Nat.sub_self]
        rfl
      generalize L.getD k 0 = c at *
      have hc8 := c.toNat_lt
      have hc9 : (c.toNat : Int) < 256 := by omega
      have hlt : c < 57 ↔ (c.toNat : Int) < 57 := by rw [UInt8.lt_iff_toNat_lt]; show c.toNat < 57 ↔ _; omega
      have hbs := fun x => hbt.set k (by rw [hml.out]; omega) x
      by_cases h57 : (c.toNat : Int) < 57
      · have e1 : ((c + 1).toNat : Int) = (c.toNat : Int) + 1 := by rw [UInt8.toNat_add]; show (((c.toNat + 1) % 256 : Nat) : Int) = _; omega
        have hb1 := hbs (c + 1)
        rw [e1] at hb1
        have hback := fun cap => hb1.back s.size cap (by rw [List.length_set]; exact hml.out)
        have hfin : M.set k (c + 1) = R := by
          rw [hset, ← HR.out, hinv.out.2, hinc, if_pos (hlt.2 h57), List.append_assoc]; rfl
        have hbw2 : Below w.heap.size w (wr.setCell ⟨w.heap.size, k, none⟩ (.int .u8 ((c.toNat : Int) + 1))) := hbw.setCell (Nat.le_refl _) _
        rw [hfin] at hback
        clear hbt hfin v1 v2 hMk hinc hset hlt hbs htk e1 hb1 hc8
        go_wp2
        go_ret
        exact ⟨rfl, hbw2⟩
      · have hb1 := hbs 48
        have hM2 : M.set k 48 = L.take k ++ List.replicate (s.size - k) 48 := by
          rw [hset, show s.size - k = (s.size - (k + 1)) + 1 by omega, List.replicate_succ]
        have hI2 : Tab.inc L = Tab.inc (L.take k) ++ List.replicate (s.size - k) 48 := by
          rw [hinv.out.2, hinc, if_neg (fun e => h57 (hlt.1 e)), List.append_assoc, show s.size - k = (s.size - (k + 1)) + 1 by omega, List.replicate_succ]; try rfl
        have hl2 : Hid ((M.set k 48).length = s.size) := by rw [List.length_set]; exact hml.out
        have HI := Lib.hid (And.intro hM2 hI2)
        have hbw2 : Below w.heap.size w (wr.setCell ⟨w.heap.size, k, none⟩ (.int .u8 48)) := hbw.setCell (Nat.le_refl _) _
        have hb2 : BytesAt (wr.setCell ⟨w.heap.size, k, none⟩ (.int .u8 48)) w.heap.size (M.set k 48) := hb1
        clear hbt v1 v2 hMk hinc hset hlt hbs htk hb1 hc8 hM2 hI2
        go_wp2
        go_roundw
        case rel => exact ⟨_, k, M.set k 48, rfl, by omega, by omega, by omega, hl2, hb2, hbw2, HI.out⟩
        case measure => simp [RowKit.intOf]
end Go.Proofs.YtkobkeopajohiaaGreatDoor
namespace Go.Proofs.YtkobkeopajohiaaGreatDoor
open Go.RowKit Go.Lib
theorem refSize_any (a : Int) (w : World) (h0 : -4000000000000000000 ≤ a) (h1 : a ≤ 4000000000000000000) :
    Calls Tryz.prog 64 #[.int .i64 a] w fun e w' => e = .returned (.int .u64 (a.natAbs : Int)) ∧ w = w' := by
  by_cases hn : a < 0
  · go_enter Tryz.func64, Tryz.ntmps64
    go_wp2
    go_ret
    exact ⟨ret_int (by omega), rfl⟩
  · go_enter Tryz.func64, Tryz.ntmps64
    go_wp2
    go_ret
    exact ⟨ret_int (by omega), rfl⟩

theorem strip_any (s : ByteArray) (w : World) :
    Calls Tryz.prog 132 #[.string s] w fun e w' => e = .returned (.string ⟨(Tab.strip s.data.toList).toArray⟩) ∧ w = w' := by
  generalize hR : Tab.strip s.data.toList = R
  have HR := Lib.hid hR
  clear hR
  go_enter Tryz.func132, Tryz.ntmps132
  go_wp2
  go_loop [0] (fun v => ∃ t : ByteArray, v = .string t ∧ t.size ≤ s.size ∧ Hid (Tab.strip t.data.toList = R)) (fun v => match v with | .string t => t.size | _ => 0)
  case atStart => exact ⟨s, rfl, Nat.le_refl _, HR.out⟩
  case round =>
    obtain ⟨t, rfl, ht, hinv⟩ := hrel
    by_cases h0 : 0 < t.size
    · have hl : 0 < t.data.toList.length := by rw [← size_eq]; exact h0
      obtain ⟨c, l, hcl⟩ : ∃ c l, t.data.toList = c :: l := by
        cases hh : t.data.toList with
        | nil => rw [hh] at hl; simp at hl
        | cons c l => exact ⟨c, l, rfl⟩
      have hg : t.data.toList.getD 0 0 = c := by rw [hcl]; rfl
      have hx : (t.extract 1 t.size).data.toList = l := by
        rw [extract_data, hcl]
        simp only [List.drop_succ_cons, List.drop_zero]
        exact List.take_of_length_le (by have := congrArg List.length hcl; rw [← size_eq, List.length_cons] at this; omega)
      have hce : t[0]'h0 = c := by
        have e1 : t.data.toList[0]'hl = c := by simp only [hcl]; rfl
        rw [← e1]; simp; rfl
      have hc8 := c.toNat_lt
      by_cases h48 : c = 48
      · have hb : (((t[0]'h0).toNat : Int) == 48) = true := by rw [hce, h48]; rfl
        have hst : Tab.strip (t.extract 1 t.size).data.toList = R := by
          rw [hx, ← hinv.out, hcl, h48]; rfl
        have HS := Lib.hid hst
        have hsz : (t.extract 1 t.size).size = t.size - 1 := by rw [size_eq, hx, size_eq, hcl]; rfl
        have HZ := Lib.hid hsz
        clear hcl hce hl hg hx hst hsz h48
        go_wp2
        go_round
        case rel => exact ⟨_, rfl, by rw [HZ.out]; omega, HS.out⟩
        case measure => show (t.extract 1 t.size).size < t.size; rw [HZ.out]; omega
      · have hb : (((t[0]'h0).toNat : Int) == 48) = false := by
          rw [hce, beq_eq_false_iff_ne]
          intro e
          exact h48 (by rw [← UInt8.toNat_inj]; show c.toNat = 48; omega)
        have hst : t.data.toList = R := by
          have : (c == 48) = false := by simp [h48]
          rw [← hinv.out, hcl]; simp [Tab.strip, List.dropWhile, this]
        have HS := Lib.hid hst
        clear hcl hce hl hg hx hst h48
        go_wp2
        go_ret
        exact ⟨ret_str HS.out, rfl⟩
    · have hn : t.data.toList = R := by
        have : t.data.toList = [] := List.eq_nil_of_length_eq_zero (by rw [← size_eq]; omega)
        rw [← hinv.out, this]; rfl
      have HS := Lib.hid hn
      clear hn
      go_wp2
      go_ret
      exact ⟨ret_str HS.out, rfl⟩

theorem value_any (m : Bool) (s : ByteArray) (w : World) (hs : s.size ≤ 4294967296) (hd : Tab.Dig s.data.toList) :
    Calls Tryz.prog 130 #[.bool m, .string s] w fun e w' => e = .returned (.tuple #[.int .i64 (Tab.valueR m s.data.toList).1, .bool (Tab.valueR m s.data.toList).2]) ∧ w = w' := by
  generalize hR : Tab.valueR m s.data.toList = R
  have HR := Lib.hid (show Tab.valOf m (Tab.digs 0 s.data.toList) = R from hR)
  clear hR
  go_enter Tryz.func130, Tryz.ntmps130
  go_wp2
  go_loop [6, 7] (fun v i => ∃ k x : Nat, v = .int .u64 x ∧ i = .int .i64 k ∧ k ≤ s.size ∧ x ≤ 999999999999999999 ∧ Hid (Tab.valOf m (Tab.digs x (s.data.toList.drop k)) = R)) (fun _ i => s.size - (RowKit.intOf i).toNat)
  case atStart => exact ⟨0, 0, rfl, rfl, by omega, by omega, HR.out⟩
  case round =>
    obtain ⟨k, x, rfl, rfl, hk, hx, hinv⟩ := hrel
    by_cases hlt : k < s.size
    · have hl : k < s.data.toList.length := by rw [← size_eq]; exact hlt
      have hcons : s.data.toList.drop k = s[k] :: s.data.toList.drop (k + 1) := by
        rw [List.drop_eq_getElem_cons hl]; congr 1
      have hdc := hd (s[k]) (by have := List.mem_of_mem_drop (by rw [hcons]; simp : s[k] ∈ s.data.toList.drop k); exact this)
      have hd2 := hinv.out
      rw [hcons] at hd2
      simp only [Tab.digs] at hd2
      generalize hc : s[k] = c at *
      have hno : ¬ (c < 48 ∨ 57 < c) := by
        simp only [UInt8.lt_iff_toNat_lt]
        show ¬ (c.toNat < 48 ∨ 57 < c.toNat)
        omega
      simp only [not_or] at hno
      have n1 : 48 ≤ (c.toNat : Int) := by omega
      have n2 : (c.toNat : Int) ≤ 57 := by omega
      by_cases hb : 99999999999999999 < x
      · rw [if_pos (.inr (.inr hb))] at hd2
        have hr : R = (0, false) := hd2.symm
        have HD := Lib.hid hr
        clear hd2 hr hcons hno
        go_wp2
        go_ret2
        exact ⟨by rw [HD.out]; rfl, rfl⟩
      · rw [if_neg (by simp only [not_or]; exact ⟨hno.1, hno.2, hb⟩)] at hd2
        have HD := Lib.hid hd2
        clear hd2 hcons hno
        go_wp2
        go_round
        case rel => exact ⟨k + 1, 10 * x + (c.toNat - 48), by go_num, by go_num, by omega, by omega, HD.out⟩
        case measure => simp [RowKit.intOf]; omega
    · have hke : k = s.data.toList.length := by rw [← size_eq]; omega
      have hend := hinv.out
      rw [hke, List.drop_length] at hend
      have hx1 : ¬ 999999999999999999 < x := by omega
      cases m with
      | false =>
        have hr : R = ((x : Int), true) := by rw [← hend]; simp [Tab.digs, Tab.valOf, Tab.made, hx1]
        have HE := Lib.hid hr
        clear hend hr hke hx1 hinv
        go_wp2
        go_ret2
        exact ⟨by rw [HE.out]; rfl, rfl⟩
      | true =>
        have hr : R = (-(x : Int), true) := by rw [← hend]; simp [Tab.digs, Tab.valOf, Tab.made, hx1]
        have HE := Lib.hid hr
        clear hend hr hke hx1 hinv
        go_wp2
        go_ret2
        exact ⟨by rw [HE.out]; rfl, rfl⟩
/-- the rounds of Digits: behind i of them u is left, and what has been said is ahead of it -/
def DigInv (n i u : Nat) (acc : List UInt8) : Prop := u < 10 ^ (20 - i) ∧ (i = 0 → u = n ∧ acc = []) ∧ (i ≠ 0 → decDigits n = (if u = 0 then [] else decDigits u) ++ acc)
theorem digInv_step {n i u : Nat} {acc : List UInt8} (h : DigInv n i u acc) (hi : i < 20) (hc : i = 0 ∨ u ≠ 0) : DigInv n (i + 1) (u / 10) (UInt8.ofNat (48 + u % 10) :: acc) := by
  obtain ⟨h1, h2, h3⟩ := h
  have hp : 10 ^ (20 - i) = 10 ^ (20 - (i + 1)) * 10 := by rw [← Nat.pow_succ]; congr 1; omega
  refine ⟨by rw [hp] at h1; omega, fun e => by omega, fun _ => ?_⟩
  have hd : decDigits n = decDigits u ++ acc := by
    by_cases h0 : i = 0
    · obtain ⟨rfl, rfl⟩ := h2 h0; simp
    · have := h3 h0
      rw [if_neg (by omega)] at this
      exact this
  rw [hd, decDigits]
  by_cases h10 : u < 10
  · rw [dif_pos h10, if_pos (by omega), show u % 10 = u by omega]; rfl
  · rw [dif_neg h10, if_neg (by omega), List.append_assoc]; rfl
theorem digInv_end {n i u : Nat} {acc : List UInt8} (h : DigInv n i u acc) (hi : i ≤ 20) (hc : 20 ≤ i ∨ i ≠ 0 ∧ u = 0) : decDigits n = acc := by
  obtain ⟨h1, h2, h3⟩ := h
  have hu : u = 0 := by
    rcases hc with hc | hc
    · have : i = 20 := by omega
      subst this; simpa using h1
    · exact hc.2
  have := h3 (by rcases hc with hc | hc <;> omega)
  rw [if_pos hu] at this
  simpa using this

theorem conv_one (W : World) (T : TypeId) (x : Int) (c : UInt8) (h : x = (c.toNat : Int)) :
    (convert 59 9 (.slice (some ⟨W.heap.size, 0, none⟩) 1 1)).run Tryz.prog (W.alloc (.cells #[.int .u8 x] T)) = .ok (.string ⟨#[c]⟩) (W.alloc (.cells #[.int .u8 x] T)) := by
  refine run_convert_bytes_back (W.alloc (.cells #[.int .u8 x] T)) 59 9 5 ⟨W.heap.size, 0, none⟩ 1 [c] Tryz.underlying59 Tryz.underlying5 Tryz.underlying9 fun j hj => ?_
  have : j = 0 := by simpa using hj
  subst this
  rw [Go.WideShapes.add_plain, World.cell?_alloc_new, h]
  rfl
set_option maxRecDepth 100000 in
theorem digits_any (n : Nat) (w : World) (hn : n < 18446744073709551616) :
    Calls Tryz.prog 129 #[.int .u64 n] w fun e w' => e = .returned (.string ⟨(decDigits n).toArray⟩) ∧ Below w.heap.size w w' := by
  have hst := Lib.hid (show DigInv n 0 n [] from ⟨by show n < 10 ^ 20; exact Nat.lt_trans hn (by decide), fun _ => ⟨rfl, rfl⟩, fun h => absurd rfl h⟩)
  generalize hR : decDigits n = R
  have HR := Lib.hid hR
  clear hR
  go_enter Tryz.func129, Tryz.ntmps129
  go_wp2
  go_loopw [0, 3, 4] (fun vu va vi wr => ∃ (u i : Nat) (acc : ByteArray), vu = .int .u64 u ∧ va = .string acc ∧ vi = .int .i64 i ∧ i ≤ 20 ∧ u < 18446744073709551616 ∧ acc.size ≤ i ∧ Below w.heap.size w wr ∧ Hid (DigInv n i u acc.data.toList)) (fun _ _ vi _ => 20 - (RowKit.intOf vi).toNat)
  case atStart => exact ⟨n, 0, ⟨#[]⟩, rfl, rfl, rfl, by omega, hn, by decide, Below.refl _ _, hst.out⟩
  case round =>
    obtain ⟨u, i, acc, rfl, rfl, rfl, hi, hu, ha, hbw, hinv⟩ := hrel
    by_cases h20 : i < 20
    · by_cases hz : i = 0 ∨ u ≠ 0
      · have HN := Lib.hid (digInv_step hinv.out h20 hz)
        have hg : (i : Int) = 0 ∨ 0 < (u : Int) := by omega
        have hi0 : ((i : Int) == 0) = true ∨ ((i : Int) == 0) = false ∧ decide (0 < u) = true := by
          by_cases h0 : i = 0
          · left; simp [h0]
          · right; exact ⟨by simp; omega, decide_eq_true (by omega)⟩
        have hcb : (48 : Int) + (u : Int) % 10 = ((UInt8.ofNat (48 + u % 10)).toNat : Int) := by rw [Tab.dig_byte _ (by omega)]; omega
        have hcv := fun W T => conv_one W T _ _ hcb
        generalize UInt8.ofNat (48 + u % 10) = c at *
        have HN2 : Hid (DigInv n (i + 1) (u / 10) ((⟨#[c]⟩ : ByteArray) ++ acc).data.toList) := by rw [ByteArray.data_append, Array.toList_append]; exact HN.out
        have hal : ∀ o : Obj, Below w.heap.size w (wr.alloc o) := fun o => hbw.alloc hbw.size o
        clear hz hg hcb HN hinv
        rcases hi0 with h1 | ⟨h1, h2⟩
        all_goals
          go_wp2
          go_roundw
          case rel => exact ⟨u / 10, i + 1, _, by go_num, rfl, by go_num, by omega, by omega, by rw [ByteArray.size_append]; show 1 + acc.size ≤ _; omega, hal _, HN2.out⟩
          case measure => simp [RowKit.intOf]; omega
      · have hend := digInv_end hinv.out hi (.inr ⟨fun h => hz (.inl h), by omega⟩)
        rw [HR.out] at hend
        have HE := Lib.hid hend.symm
        have h1 : ((i : Int) == 0) = false := by simp; omega
        have h3 : decide (0 < u) = false := decide_eq_false (by omega)
        clear hz hend hinv
        go_wp2
        go_ret
        exact ⟨ret_str HE.out, hbw⟩
    · have hend := digInv_end hinv.out hi (.inl (by omega))
      rw [HR.out] at hend
      have HE := Lib.hid hend.symm
      clear hend hinv
      go_wp2
      go_ret
      exact ⟨ret_str HE.out, hbw⟩
end Go.Proofs.YtkobkeopajohiaaGreatDoor
namespace Go.Proofs.YtkobkeopajohiaaGreatDoor
open Go.RowKit Go.Lib

theorem inc_is (s t : ByteArray) (w : World) (hs : s.size ≤ 4294967296) (h : t.data.toList = Tab.inc s.data.toList) :
    Calls Tryz.prog 143 #[.string s] w fun e w' => e = .returned (.string t) ∧ Below w.heap.size w w' := by
  refine (inc_any s w hs).mono ?_
  rintro e w' ⟨rfl, hb⟩
  exact ⟨by rw [← h], hb⟩

theorem refCut_any (s : ByteArray) (n : Nat) (w : World) (hs : s.size ≤ 4294967) (h0 : 1 ≤ n) (h1 : n ≤ 4294967) :
    Calls Tryz.prog 131 #[.string s, .int .i64 n] w fun e w' => e = .returned (.string ⟨(Tab.cutR s.data.toList n).toArray⟩) ∧ Below w.heap.size w w' := by
  generalize hR : Tab.cutR s.data.toList n = R
  have HR := Lib.hid hR
  clear hR
  have hn0 : ((n : Int) == 0) = false := by simp; omega
  go_enter Tryz.func131, Tryz.ntmps131
  go_wp2
  go_loop [0] (fun v => ∃ (t : ByteArray) (j : Nat), v = .string t ∧ Hid (t.data.toList = List.replicate j 48 ++ s.data.toList) ∧ Hid (t.size = s.size + j) ∧ t.size ≤ 8589934 + 10 ∧ Hid (j ≤ n + 1 - s.size)) (fun v => match v with | .string t => n + 1 - t.size | _ => 0)
  case atStart => exact ⟨s, 0, rfl, rfl, rfl, by omega, Nat.zero_le _⟩
  case round =>
    obtain ⟨t, j, rfl, ht, htz, htb, hj⟩ := hrel
    by_cases hle : t.size ≤ n
    · have hz2 : (⟨#[48]⟩ ++ t : ByteArray).size = t.size + 1 := by rw [ByteArray.size_append]; show 1 + t.size = _; omega
      have hd2 : (⟨#[48]⟩ ++ t : ByteArray).data.toList = List.replicate (j + 1) 48 ++ s.data.toList := by
        rw [ByteArray.data_append, Array.toList_append, ht.out, List.replicate_succ]; rfl
      have HZ := Lib.hid hz2
      have HD := Lib.hid hd2
      have hj1 := hj.out
      have hj2 := htz.out
      have hj3 : j + 1 ≤ n + 1 - s.size := by omega
      have HJ := Lib.hid hj3
      clear hz2 hd2 hj1 hj2 hj3
      go_wp2
      go_round
      case rel => exact ⟨_, j + 1, rfl, HD.out, by have := HZ.out; have := htz.out; show _ = _; omega, by rw [HZ.out]; omega, HJ.out⟩
      case measure => show n + 1 - (⟨#[48]⟩ ++ t : ByteArray).size < n + 1 - t.size; rw [HZ.out]; omega
    · have hpad : t.data.toList = Tab.padTo n s.data.toList := by
        have hj1 := hj.out
        have hj2 := htz.out
        unfold Tab.padTo
        rw [ht.out, ← size_eq, show j = n + 1 - s.size by omega]
      have hlt : n < t.size := by omega
      have hl : t.size - n < t.data.toList.length := by rw [← size_eq]; omega
      have hix : t.size - n < t.size := by omega
      have hc : (Tab.padTo n s.data.toList).getD ((Tab.padTo n s.data.toList).length - n) 0 = t[t.size - n]'hix := by
        rw [← hpad, ← size_eq, List.getD_eq_getElem?_getD, List.getElem?_eq_getElem hl]; rfl
      have htake : (t.extract 0 (t.size - n)).data.toList = (Tab.padTo n s.data.toList).take ((Tab.padTo n s.data.toList).length - n) := by
        rw [extract_data, ← hpad, ← size_eq]; simp
      have hRR : R = if 53 ≤ t[t.size - n]'hix then Tab.inc ((t.extract 0 (t.size - n)).data.toList) else (t.extract 0 (t.size - n)).data.toList := by
        rw [← HR.out, htake, ← hc]
        unfold Tab.cutR
        rw [if_neg (by omega)]
      have hsz : (t.extract 0 (t.size - n)).size ≤ 4294967296 := by rw [size_eq, extract_data]; simp; omega
      have h53 : 53 ≤ t[t.size - n]'hix ↔ 53 ≤ ((t[t.size - n]'hix).toNat : Int) := by rw [UInt8.le_iff_toNat_le]; show 53 ≤ (t[t.size - n]'hix).toNat ↔ _; omega
      by_cases hb : 53 ≤ ((t[t.size - n]'hix).toNat : Int)
      · rw [if_pos (h53.2 hb)] at hRR
        have HRR := Lib.hid hRR
        have HS := Lib.hid hsz
        clear hpad hc htake hRR hsz h53 hl
        go_wp2_with (first | (go_at_call 143; refine (inc_is _ ⟨R.toArray⟩ _ HS.out HRR.out).mono ?_; rintro e w' ⟨rfl, hb1⟩))
        go_ret
        exact ⟨rfl, hb1⟩
      · rw [if_neg (fun e => hb (h53.1 e))] at hRR
        have HRR := Lib.hid hRR
        clear hpad hc htake hRR hsz h53 hl
        go_wp2
        go_ret
        exact ⟨ret_str HRR.out.symm, Below.refl _ _⟩
end Go.Proofs.YtkobkeopajohiaaGreatDoor
namespace Go.Proofs.YtkobkeopajohiaaGreatDoor
open Go.RowKit Go.Lib

theorem fit_any (c : Int) (w : World) : Calls Tryz.prog 128 #[.int .i64 c] w fun e w' => e = .returned (.tuple #[.int .i64 (Tab.fit c).1, .bool (Tab.fit c).2]) ∧ w = w' := by
  by_cases h1 : 999999999999999999 < c
  · have e : Tab.fit c = (0, false) := by unfold Tab.fit; rw [if_neg (by omega)]
    rw [e]
    go_enter Tryz.func128, Tryz.ntmps128
    go_wp2
    go_ret2
    exact ⟨rfl, rfl⟩
  · by_cases h2 : c < -999999999999999999
    · have e : Tab.fit c = (0, false) := by unfold Tab.fit; rw [if_neg (by omega)]
      rw [e]
      go_enter Tryz.func128, Tryz.ntmps128
      go_wp2
      go_ret2
      exact ⟨rfl, rfl⟩
    · have e : Tab.fit c = (c, true) := by unfold Tab.fit; rw [if_pos (by omega)]
      rw [e]
      clear e
      go_enter Tryz.func128, Tryz.ntmps128
      go_wp2
      go_ret2
      exact ⟨rfl, rfl⟩

theorem refMod_any (a b : Int) (w : World) (ha : -999999999999999999 ≤ a ∧ a ≤ 999999999999999999) (hb : -999999999999999999 ≤ b ∧ b ≤ 999999999999999999) (h0 : b ≠ 0) :
    Calls Tryz.prog 72 #[.int .i64 a, .int .i64 b] w fun e w' => e = .returned (.int .i64 (Int.fmod a b)) ∧ w = w' := by
  have hb0 : (b == 0) = false := by simp [h0]
  have hr := Tab.rest_eq a b
  obtain ⟨t1, t2⟩ := Tab.tmod_bd a b h0 hb
  obtain ⟨f1, f2, f3⟩ := Tab.fmod_of a b h0
  obtain ⟨a0, a1⟩ := ha
  obtain ⟨b1, b2⟩ := hb
  have q0 : -2000000000000000000 ≤ a.tdiv b * b := by omega
  have q1 : a.tdiv b * b ≤ 2000000000000000000 := by omega
  have d1 : (a.tdiv b).natAbs ≤ a.natAbs := by rw [Int.natAbs_tdiv]; exact Nat.div_le_self _ _
  have d2 : -999999999999999999 ≤ a.tdiv b := by omega
  have d3 : a.tdiv b ≤ 999999999999999999 := by omega
  have HR := Lib.hid hr
  have F1 := Lib.hid f1
  have F2 := Lib.hid f2
  have F3 := Lib.hid f3
  clear f1 f2 f3
  by_cases hz : a.tmod b = 0
  · have r1 : a - a.tdiv b * b ≤ 0 := by omega
    have r2 : 0 ≤ a - a.tdiv b * b := by omega
    clear hr
    go_enter Tryz.func72, Tryz.ntmps72
    go_wp2
    go_ret
    exact ⟨ret_int (by rw [F1.out hz, HR.out, hz]), rfl⟩
  · by_cases hs : (a.tmod b < 0) ↔ (b < 0)
    · by_cases hn : a.tmod b < 0
      · have r1 : a - a.tdiv b * b < 0 := by omega
        have r2 : b < 0 := hs.1 hn
        have HZ := Lib.hid hz
        have HS := Lib.hid hs
        clear hr hz hs hn
        go_enter Tryz.func72, Tryz.ntmps72
        go_wp2
        go_ret
        exact ⟨ret_int (by rw [F2.out HZ.out HS.out, HR.out]), rfl⟩
      · have r1 : 0 < a - a.tdiv b * b := by omega
        have r2 : 0 < b := by omega
        have HZ := Lib.hid hz
        have HS := Lib.hid hs
        clear hr hz hs hn
        go_enter Tryz.func72, Tryz.ntmps72
        go_wp2
        go_ret
        exact ⟨ret_int (by rw [F2.out HZ.out HS.out, HR.out]), rfl⟩
    · by_cases hn : a.tmod b < 0
      · have r1 : a - a.tdiv b * b < 0 := by omega
        have r2 : 0 < b := by omega
        have HZ := Lib.hid hz
        have HS := Lib.hid hs
        clear hr hz hs hn
        go_enter Tryz.func72, Tryz.ntmps72
        go_wp2
        go_ret
        exact ⟨ret_int (by rw [F3.out HZ.out HS.out, HR.out]), rfl⟩
      · have r1 : 0 < a - a.tdiv b * b := by omega
        have r2 : b < 0 := by omega
        have HZ := Lib.hid hz
        have HS := Lib.hid hs
        clear hr hz hs hn
        go_enter Tryz.func72, Tryz.ntmps72
        go_wp2
        go_ret
        exact ⟨ret_int (by rw [F3.out HZ.out HS.out, HR.out]), rfl⟩

theorem refMod_pos (a s : Int) (w : World) (ha : -999999999999999999 ≤ a ∧ a ≤ 999999999999999999) (hs : 0 < s ∧ s ≤ 999999999999999999) :
    Calls Tryz.prog 72 #[.int .i64 a, .int .i64 s] w fun e w' => e = .returned (.int .i64 (a % s)) ∧ w = w' := by
  have := refMod_any a s w ha ⟨by omega, hs.2⟩ (by omega)
  rw [Int.fmod_eq_emod_of_nonneg a (by omega)] at this
  exact this

theorem refFloor_any (a s : Int) (w : World) (ha : -999999999999999999 ≤ a ∧ a ≤ 999999999999999999) (hs : 0 < s ∧ s ≤ 999999999999999999) :
    Calls Tryz.prog 66 #[.int .i64 a, .int .i64 s] w fun e w' => e = .returned (.tuple #[.int .i64 (Tab.fit (a - a % s)).1, .bool (Tab.fit (a - a % s)).2]) ∧ w = w' := by
  have m0 := Int.emod_nonneg a (show s ≠ 0 by omega)
  have m1 := Int.emod_lt_of_pos a hs.1
  have HM := Lib.hid (refMod_pos a s w ha hs)
  obtain ⟨a0, a1⟩ := ha
  obtain ⟨s0, s1⟩ := hs
  generalize a % s = m at *
  go_enter Tryz.func66, Tryz.ntmps66
  go_wp2_with (first
    | (go_at_call 72; refine HM.out.mono ?_; rintro e w' ⟨rfl, rfl⟩)
    | (go_at_call 128; refine (fit_any _ _).mono ?_; rintro e w' ⟨rfl, rfl⟩))
  go_ret2
  exact ⟨rfl, rfl⟩

theorem refCeil_any (a s : Int) (w : World) (ha : -999999999999999999 ≤ a ∧ a ≤ 999999999999999999) (hs : 0 < s ∧ s ≤ 999999999999999999) :
    Calls Tryz.prog 70 #[.int .i64 a, .int .i64 s] w fun e w' => e = .returned (.tuple #[.int .i64 (-(Tab.fit (-a - (-a) % s)).1), .bool (Tab.fit (-a - (-a) % s)).2]) ∧ w = w' := by
  have m0 := Int.emod_nonneg a (show s ≠ 0 by omega)
  have m1 := Int.emod_lt_of_pos a hs.1
  have HM := Lib.hid (refMod_pos a s w ha hs)
  obtain ⟨C1, C2⟩ := Tab.ceilR a s ha hs
  obtain ⟨a0, a1⟩ := ha
  obtain ⟨s0, s1⟩ := hs
  generalize a % s = m at *
  by_cases hz : m = 0
  · obtain ⟨e1, e2⟩ := C1 hz
    rw [e1, e2]
    subst hz
    clear C1 C2 e1 e2
    go_enter Tryz.func70, Tryz.ntmps70
    go_wp2_with (first
      | (go_at_call 72; refine HM.out.mono ?_; rintro e w' ⟨rfl, rfl⟩))
    go_ret2
    exact ⟨rfl, rfl⟩
  · obtain ⟨e1, e2⟩ := C2 hz
    rw [e1, e2]
    have hz' : (m == 0) = false := by simp [hz]
    clear C1 C2 e1 e2 hz
    go_enter Tryz.func70, Tryz.ntmps70
    go_wp2_with (first
      | (go_at_call 72; refine HM.out.mono ?_; rintro e w' ⟨rfl, rfl⟩)
      | (go_at_call 128; refine (fit_any _ _).mono ?_; rintro e w' ⟨rfl, rfl⟩))
    go_ret2
    exact ⟨rfl, rfl⟩

end Go.Proofs.YtkobkeopajohiaaGreatDoor
namespace Go.Proofs.YtkobkeopajohiaaGreatDoor
open Go.RowKit Go.Lib

theorem digits_is (u : Int) (s : ByteArray) (w : World) (h0 : 0 ≤ u) (h1 : u < 18446744073709551616) (h : s.data.toList = decDigits u.toNat) :
    Calls Tryz.prog 129 #[.int .u64 u] w fun e w' => e = .returned (.string s) ∧ Below w.heap.size w w' := by
  obtain ⟨n, rfl⟩ := Int.eq_ofNat_of_zero_le h0
  refine (digits_any n w (by omega)).mono ?_
  rintro e w' ⟨rfl, hb⟩
  exact ⟨by rw [show decDigits n = s.data.toList from h.symm], hb⟩
theorem refCut_is (s t : ByteArray) (n : Int) (w : World) (hs : s.size ≤ 4294967) (h0 : 1 ≤ n) (h1 : n ≤ 4294967) (h : t.data.toList = Tab.cutR s.data.toList n.toNat) :
    Calls Tryz.prog 131 #[.string s, .int .i64 n] w fun e w' => e = .returned (.string t) ∧ Below w.heap.size w w' := by
  obtain ⟨k, rfl⟩ := Int.eq_ofNat_of_zero_le (show 0 ≤ n by omega)
  refine (refCut_any s k w hs (by omega) (by omega)).mono ?_
  rintro e w' ⟨rfl, hb⟩
  exact ⟨by rw [show Tab.cutR s.data.toList k = t.data.toList from h.symm], hb⟩
theorem strip_is (s t : ByteArray) (w : World) (h : t.data.toList = Tab.strip s.data.toList) :
    Calls Tryz.prog 132 #[.string s] w fun e w' => e = .returned (.string t) ∧ w = w' := by
  refine (strip_any s w).mono ?_
  rintro e w' ⟨rfl, rfl⟩
  exact ⟨by rw [← h], rfl⟩
theorem value_is (m : Bool) (s : ByteArray) (n : Int) (ok : Bool) (w : World) (hs : s.size ≤ 4294967296) (hd : Tab.Dig s.data.toList) (h : Tab.valueR m s.data.toList = (n, ok)) :
    Calls Tryz.prog 130 #[.bool m, .string s] w fun e w' => e = .returned (.tuple #[.int .i64 n, .bool ok]) ∧ w = w' := by
  have := value_any m s w hs hd
  rw [h] at this
  exact this

theorem refRound_any (a p : Int) (w : World) (ha : -999999999999999999 ≤ a ∧ a ≤ 999999999999999999) :
    Calls Tryz.prog 68 #[.int .i64 a, .int .i64 p] w fun e w' => e = .returned (.tuple #[.int .i64 (Tab.roundS a p).1, .bool (Tab.roundS a p).2]) ∧ Below w.heap.size w w' := by
  rw [← Tab.roundR_eq]
  obtain ⟨a0, a1⟩ := ha
  by_cases h4 : 4 ≤ p
  · have e : Tab.roundR a p = (a, true) := by unfold Tab.roundR; rw [if_pos h4]
    rw [e]
    clear e
    go_enter Tryz.func68, Tryz.ntmps68
    go_wp2
    go_ret2
    exact ⟨rfl, Below.refl _ _⟩
  · by_cases h14 : p < -14
    · have e : Tab.roundR a p = (0, true) := by unfold Tab.roundR; rw [if_neg h4, if_pos h14]
      rw [e]
      clear e
      go_enter Tryz.func68, Tryz.ntmps68
      go_wp2
      go_ret2
      exact ⟨rfl, Below.refl _ _⟩
    · have e : Tab.roundR a p = Tab.valueR (decide (a < 0)) (Tab.strip (Tab.cutR (decDigits a.natAbs) (4 - p).toNat ++ List.replicate (4 - p).toNat 48)) := by unfold Tab.roundR; rw [if_neg h4, if_neg h14]
      rw [e]
      obtain ⟨s1, e1⟩ : ∃ s : ByteArray, s.data.toList = decDigits a.natAbs := ⟨⟨(decDigits _).toArray⟩, rfl⟩
      obtain ⟨s2, e2⟩ : ∃ s : ByteArray, s.data.toList = Tab.cutR s1.data.toList (4 - p).toNat := ⟨⟨(Tab.cutR _ _).toArray⟩, rfl⟩
      have z1 : s1.size ≤ 20 := by rw [size_eq, e1]; exact dec_size _ (by omega)
      have z2 : s2.size ≤ 60 := by
        rw [size_eq, e2]
        have := Tab.cutR_len s1.data.toList (4 - p).toNat
        rw [← size_eq] at this
        omega
      have d2 : Tab.Dig s2.data.toList := by rw [e2, e1]; exact (Tab.cutR_val (Tab.dig_dec _) _ (by omega)).1
      rw [← e1, ← e2]
      obtain ⟨s3, e3⟩ : ∃ s : ByteArray, s.data.toList = Tab.strip (s2.data.toList ++ List.replicate (4 - p).toNat 48) := ⟨⟨(Tab.strip _).toArray⟩, rfl⟩
      have d3 : Tab.Dig s3.data.toList := by rw [e3]; exact Tab.dig_strip (d2.append (Tab.dig_zeros _))
      have z3 : s3.size ≤ 100 := by
        rw [size_eq, e3]
        unfold Tab.strip
        have h1 := (List.dropWhile_sublist (fun x => x == (48 : UInt8)) (l := s2.data.toList ++ List.replicate (4 - p).toNat 48)).length_le
        rw [List.length_append, List.length_replicate, ← size_eq] at h1
        omega
      rw [← e3]
      obtain ⟨n, ok, hn⟩ : ∃ n ok, Tab.valueR (decide (a < 0)) s3.data.toList = (n, ok) := ⟨_, _, rfl⟩
      rw [hn]
      have hq : (4 - p).toNat ≤ 18 := by omega
      have E1 := Lib.hid e1
      have E2 := Lib.hid e2
      have E3 := Lib.hid e3
      have HN := Lib.hid hn
      have D3 := Lib.hid d3
      clear e1 e2 e3 hn e d2 d3
      go_enter Tryz.func68, Tryz.ntmps68
      go_wp2_with (first
        | (go_at_call 64; refine (refSize_any a _ (by omega) (by omega)).mono ?_; rintro e w' ⟨rfl, rfl⟩))
      go_at_call 129
      refine (digits_is _ s1 _ (by omega) (by omega) (by rw [E1.out]; congr 1)).mono ?_
      rintro e w1 ⟨rfl, hb1⟩
      go_wp2_with (first | (go_at_call 131; fail))
      go_at_call 131
      refine (refCut_is s1 s2 _ _ (by omega) (by omega) (by omega) E2.out).mono ?_
      rintro e w2 ⟨rfl, hb2⟩
      have hb := hb1.trans (hb2.mono hb1.size)
      go_wp2_with (fail)
      go_loop [6, 7] (fun v i => ∃ (t : ByteArray) (j : Nat), v = .string t ∧ i = .int .i64 (p + j) ∧ p + j ≤ 4 ∧ t.size ≤ 60 + j ∧ Hid (t.data.toList = s2.data.toList ++ List.replicate j 48)) (fun _ i => (4 - RowKit.intOf i).toNat)
      case atStart => exact ⟨s2, 0, rfl, by simp, by omega, by omega, by show _ = _ ++ []; rw [List.append_nil]⟩
      case round =>
        obtain ⟨t, j, rfl, rfl, hj, htz, ht⟩ := hrel
        by_cases hlt : p + j < 4
        · have hd2 : (t ++ ⟨#[48]⟩ : ByteArray).data.toList = s2.data.toList ++ List.replicate (j + 1) 48 := by
            rw [ByteArray.data_append, Array.toList_append, ht.out, List.replicate_succ', List.append_assoc]
          have hz2 : (t ++ ⟨#[48]⟩ : ByteArray).size ≤ 60 + (j + 1) := by rw [ByteArray.size_append]; show t.size + 1 ≤ _; omega
          have HD := Lib.hid hd2
          have HZ := Lib.hid hz2
          clear hd2 hz2
          go_wp2
          go_round
          case rel => exact ⟨_, j + 1, rfl, by simp only [Value.int.injEq, true_and]; omega, by omega, HZ.out, HD.out⟩
          case measure => simp [RowKit.intOf]; omega
        · have hj4 : (4 - p).toNat = j := by omega
          have hst : s3.data.toList = Tab.strip t.data.toList := by rw [E3.out, ht.out, hj4]
          have HS := Lib.hid hst
          clear hst hj4
          go_wp2_with (first
            | (go_at_call 132; refine (strip_is t s3 _ HS.out).mono ?_; rintro e w' ⟨rfl, rfl⟩)
            | (go_at_call 130; refine (value_is _ s3 n ok _ (by omega) D3.out HN.out).mono ?_; rintro e w' ⟨rfl, rfl⟩))
          go_ret2
          exact ⟨rfl, hb⟩
end Go.Proofs.YtkobkeopajohiaaGreatDoor
namespace Go.Proofs.YtkobkeopajohiaaGreatDoor
open Go.RowKit Go.Lib

theorem refTrunc_any (a p : Int) (w : World) (ha : -999999999999999999 ≤ a ∧ a ≤ 999999999999999999) :
    Calls Tryz.prog 67 #[.int .i64 a, .int .i64 p] w fun e w' => e = .returned (.int .i64 (Tab.truncS a p)) ∧ Below w.heap.size w w' := by
  rw [← Tab.truncR_eq a p ha]
  obtain ⟨a0, a1⟩ := ha
  by_cases h4 : 4 ≤ p
  · have e : Tab.truncR a p = a := by unfold Tab.truncR; rw [if_pos h4]
    rw [e]
    clear e
    go_enter Tryz.func67, Tryz.ntmps67
    go_wp2
    go_ret
    exact ⟨rfl, Below.refl _ _⟩
  · by_cases h14 : p < -14
    · have e : Tab.truncR a p = 0 := by unfold Tab.truncR; rw [if_neg h4, if_pos h14]
      rw [e]
      clear e
      go_enter Tryz.func67, Tryz.ntmps67
      go_wp2
      go_ret
      exact ⟨rfl, Below.refl _ _⟩
    · obtain ⟨s1, e1⟩ : ∃ s : ByteArray, s.data.toList = decDigits a.natAbs := ⟨⟨(decDigits _).toArray⟩, rfl⟩
      have z1 : s1.size ≤ 20 := by rw [size_eq, e1]; exact dec_size _ (by omega)
      have d1 : Tab.Dig s1.data.toList := by rw [e1]; exact Tab.dig_dec _
      by_cases hsh : (s1.size : Int) ≤ 4 - p
      · have e : Tab.truncR a p = 0 := by unfold Tab.truncR; rw [if_neg h4, if_neg h14, if_pos (by rw [← e1, ← size_eq]; omega)]
        rw [e]
        have E1 := Lib.hid e1
        clear e1 e d1
        go_enter Tryz.func67, Tryz.ntmps67
        go_wp2_with (first
          | (go_at_call 64; refine (refSize_any a _ (by omega) (by omega)).mono ?_; rintro e w' ⟨rfl, rfl⟩)
          | (go_at_call 129; refine (digits_is _ s1 _ (by omega) (by omega) (by rw [E1.out]; congr 1)).mono ?_; rintro e w1 ⟨rfl, hb1⟩))
        go_ret
        exact ⟨rfl, hb1⟩
      · obtain ⟨n, hn⟩ : ∃ n : Nat, (4 - p).toNat = n := ⟨_, rfl⟩
        have hpn : p = 4 - (n : Int) := by omega
        have e : Tab.truncR a p = (Tab.valueR (decide (a < 0)) (s1.data.toList.take (s1.size - n) ++ List.replicate n 48)).1 := by
          unfold Tab.truncR; rw [if_neg h4, if_neg h14, if_neg (by rw [← e1, ← size_eq]; omega), ← e1, ← size_eq, hn]
        rw [e]
        obtain ⟨v, ok, hv⟩ : ∃ v ok, Tab.valueR (decide (a < 0)) (s1.data.toList.take (s1.size - n) ++ List.replicate n 48) = (v, ok) := ⟨_, _, rfl⟩
        rw [hv]
        have hns : n < s1.size := by omega
        have hn1 : 1 ≤ n := by omega
        have hdd : Tab.Dig (s1.data.toList.take (s1.size - n) ++ List.replicate n 48) := by
          refine Tab.Dig.append ?_ (Tab.dig_zeros n)
          have := List.take_append_drop (s1.size - n) s1.data.toList
          rw [← this] at d1
          exact d1.left
        have E1 := Lib.hid e1
        have HV := Lib.hid hv
        have HD := Lib.hid hdd
        have hnp : 4 - p = (n : Int) := by omega
        have HNP := Lib.hid hnp
        clear e1 e d1 hv hdd hn hpn
        go_enter Tryz.func67, Tryz.ntmps67
        go_wp2_with (first
          | (go_at_call 64; refine (refSize_any a _ (by omega) (by omega)).mono ?_; rintro e w' ⟨rfl, rfl⟩))
        go_at_call 129
        refine (digits_is _ s1 _ (by omega) (by omega) (by rw [E1.out]; congr 1)).mono ?_
        rintro e w1 ⟨rfl, hb1⟩
        go_wp2_with (fail)
        clear hnp
        go_loopw [5, 7] (fun v i wr => ∃ (t : ByteArray) (j : Nat), v = .string t ∧ i = .int .i64 j ∧ j ≤ n ∧ Hid (t.size = s1.size) ∧ t.size ≤ 20 ∧ n < t.size ∧ Below w.heap.size w wr ∧ Hid (t.data.toList = s1.data.toList.take (s1.size - n) ++ (List.replicate j 48 ++ s1.data.toList.drop (s1.size - n + j)))) (fun _ i _ => n - (RowKit.intOf i).toNat)
        case atStart => exact ⟨s1, 0, rfl, rfl, by omega, rfl, z1, hns, hb1, by show _ = _ ++ ([] ++ _); rw [List.nil_append, Nat.add_zero, List.take_append_drop]⟩
        case round =>
          obtain ⟨t, j, rfl, rfl, hj, htz, ht20, hnt, hbw, ht⟩ := hrel
          by_cases hlt : j < n
          · have hx0 : 0 ≤ (t.size : Int) - (4 - p) + (j : Int) := by have := HNP.out; omega
            have hx1 : (t.size : Int) - (4 - p) + (j : Int) ≤ t.size := by have := HNP.out; omega
            have hx2 : (t.size : Int) - (4 - p) + (j : Int) + 1 ≤ t.size := by have := HNP.out; omega
            have hX : (t.extract 0 (t.size - n + j) ++ ⟨#[48]⟩ ++ t.extract (t.size - n + j + 1) t.size : ByteArray).data.toList = s1.data.toList.take (s1.size - n) ++ (List.replicate (j + 1) 48 ++ s1.data.toList.drop (s1.size - n + (j + 1))) := by
              have hz := htz.out
              have hl1 : s1.data.toList.length = s1.size := (size_eq s1).symm
              rw [ByteArray.data_append, ByteArray.data_append, Array.toList_append, Array.toList_append, extract_data, extract_data, ht.out, hz]
              have hA : (s1.data.toList.take (s1.size - n)).length = s1.size - n := by rw [List.length_take, hl1]; omega
              have e1 : ((s1.data.toList.take (s1.size - n) ++ (List.replicate j 48 ++ s1.data.toList.drop (s1.size - n + j))).drop 0).take (s1.size - n + j - 0) = s1.data.toList.take (s1.size - n) ++ List.replicate j 48 := by
                rw [List.drop_zero, Nat.sub_zero, ← List.append_assoc]
                exact List.take_left' (by rw [List.length_append, hA, List.length_replicate])
              have e2 : ((s1.data.toList.take (s1.size - n) ++ (List.replicate j 48 ++ s1.data.toList.drop (s1.size - n + j))).drop (s1.size - n + j + 1)).take (s1.size - (s1.size - n + j + 1)) = s1.data.toList.drop (s1.size - n + (j + 1)) := by
                rw [← List.append_assoc, ← List.drop_drop, List.drop_left' (by rw [List.length_append, hA, List.length_replicate]), List.drop_drop]
                exact List.take_of_length_le (by rw [List.length_drop, hl1]; omega)
              rw [e1, e2, List.replicate_succ']
              simp [List.append_assoc]
            have hZ : (t.extract 0 (t.size - n + j) ++ ⟨#[48]⟩ ++ t.extract (t.size - n + j + 1) t.size : ByteArray).size = s1.size := by
              rw [size_eq, hX]
              have hl1 : s1.data.toList.length = s1.size := (size_eq s1).symm
              simp only [List.length_append, List.length_take, List.length_replicate, List.length_drop, hl1]
              omega
            have HX := Lib.hid hX
            have HZ := Lib.hid hZ
            clear hX hZ
            go_wp2
            go_quiet (fail)
            go_wp2
            refine ⟨⟨_, j + 1, rfl, by go_num, by omega, HZ.out, by rw [HZ.out]; exact z1, by rw [HZ.out]; exact hns, below_drewN hbw _, HX.out⟩, ?_⟩
            simp [RowKit.intOf]; omega
          · have hjn : j = n := by omega
            have hfin : t.data.toList = s1.data.toList.take (s1.size - n) ++ List.replicate n 48 := by
              rw [ht.out, hjn, List.drop_eq_nil_of_le (by rw [← size_eq]; omega), List.append_nil]
            have HF := Lib.hid hfin
            have hnp := HNP.out
            clear hfin hjn
            go_wp2_with (first
              | (go_at_call 130; refine (value_is _ t v ok _ (by omega) (by rw [HF.out]; exact HD.out) (by rw [HF.out]; exact HV.out)).mono ?_; rintro e w' ⟨rfl, rfl⟩))
            go_ret
            exact ⟨rfl, hbw⟩
end Go.Proofs.YtkobkeopajohiaaGreatDoor
namespace Go.Proofs.YtkobkeopajohiaaGreatDoor
open Go.RowKit Go.Lib

theorem lawCut_any (s t : ByteArray) (n : Nat) (w : World) (h : t.data.toList = s.data.toList.take n) :
    Calls Tryz.prog 7 #[.string s, .int .i64 n] w fun e w' => e = .returned (.string t) ∧ w = w' := by
  by_cases hl : n < s.size
  · have hx : (s.extract 0 n).data.toList = t.data.toList := by rw [extract_data, h]; simp
    have HX := Lib.hid hx
    clear hx h
    go_enter Tryz.func7, Tryz.ntmps7
    go_wp2
    go_ret
    exact ⟨ret_str HX.out, rfl⟩
  · have hx : s.data.toList = t.data.toList := by rw [h, List.take_of_length_le (by rw [← size_eq]; omega)]
    have HX := Lib.hid hx
    clear hx h
    go_enter Tryz.func7, Tryz.ntmps7
    go_wp2
    go_ret
    exact ⟨ret_str HX.out, rfl⟩

theorem mul_ii (x y hi lo : Int) (w : World) (hx0 : 0 ≤ x) (hx : x < 18446744073709551616) (hy0 : 0 ≤ y) (hy : y < 18446744073709551616) (h0 : 0 ≤ hi) (h1 : 0 ≤ lo) (hlo : lo < 18446744073709551616) (h : x * y = hi * 18446744073709551616 + lo) :
    Calls Tryz.prog 122 #[.int .u64 x, .int .u64 y] w fun e w' => e = .returned (.tuple #[.int .u64 hi, .int .u64 lo]) ∧ w = w' := by
  obtain ⟨a, rfl⟩ := Int.eq_ofNat_of_zero_le hx0
  obtain ⟨b, rfl⟩ := Int.eq_ofNat_of_zero_le hy0
  exact mul_is a b hi lo w (by omega) (by omega) h0 h1 hlo (by rw [Int.natCast_mul]; exact h)
theorem made_big (m : Bool) (hi lo : Int) (w : World) (h : 0 < hi) :
    Calls Tryz.prog 116 #[.bool m, .int .u64 hi, .int .u64 lo] w fun e w' => e = .returned (.tuple #[.int .i64 0, .bool false]) ∧ w = w' := by
  go_enter Tryz.func116, Tryz.ntmps116
  go_wp2
  go_ret2
  exact ⟨rfl, rfl⟩
theorem made_over (m : Bool) (lo : Int) (w : World) (h : 999999999999999999 < lo) :
    Calls Tryz.prog 116 #[.bool m, .int .u64 0, .int .u64 lo] w fun e w' => e = .returned (.tuple #[.int .i64 0, .bool false]) ∧ w = w' := by
  go_enter Tryz.func116, Tryz.ntmps116
  go_wp2
  go_ret2
  exact ⟨rfl, rfl⟩

set_option maxRecDepth 100000 in
/-- a whole number: in range -/
theorem int_yes (n : Int) (w : World) (h : -99999999999999 ≤ n ∧ n ≤ 99999999999999) :
    Calls Tryz.prog 120 #[.int .i64 n] w fun e w' => e = .returned (.tuple #[.int .i64 (n * 10000), .bool true]) ∧ w = w' := by
  obtain ⟨h0, h1⟩ := h
  by_cases hn : n < 0
  · have hm := fun w => mul_ii (-n) 10000 0 (-n * 10000) w (by omega) (by omega) (by omega) (by omega) (by omega) (by omega) (by omega) (by omega)
    have hmd := fun w => made_int true (-n * 10000) w (by omega) (by omega)
    have em : Tab.made true (-n * 10000).toNat = (n * 10000, true) := by
      unfold Tab.made; rw [if_neg (by omega), if_pos rfl]; congr 1; omega
    rw [em] at hmd
    have HM := Lib.hid hm
    have HD := Lib.hid hmd
    have hw : IntKind.u64.wrap (-IntKind.u64.wrap n) = -n := by rw [IntKind.wrap_u64, IntKind.wrap_u64]; omega
    clear hm hmd em
    go_enter Tryz.func120, Tryz.ntmps120
    go_wp2_with (first
      | (go_at_call 122; refine (HM.out _).mono ?_; rintro e w' ⟨rfl, rfl⟩)
      | (go_at_call 116; refine (HD.out _).mono ?_; rintro e w' ⟨rfl, rfl⟩))
    go_ret2
    exact ⟨rfl, rfl⟩
  · have hn' : 0 ≤ n := by omega
    have hdec : decide (n < 0) = false := decide_eq_false hn
    have hm := fun w => mul_ii n 10000 0 (n * 10000) w (by omega) (by omega) (by omega) (by omega) (by omega) (by omega) (by omega) (by omega)
    have hmd := fun w => made_int false (n * 10000) w (by omega) (by omega)
    have em : Tab.made false (n * 10000).toNat = (n * 10000, true) := by
      unfold Tab.made; rw [if_neg (by omega)]; simp only [Bool.false_eq_true, if_false, Prod.mk.injEq, and_true]; omega
    rw [em] at hmd
    have HM := Lib.hid hm
    have HD := Lib.hid hmd
    clear hm hmd em
    go_enter Tryz.func120, Tryz.ntmps120
    go_wp2_with (first
      | (go_at_call 122; refine (HM.out _).mono ?_; rintro e w' ⟨rfl, rfl⟩)
      | (go_at_call 116; refine (HD.out _).mono ?_; rintro e w' ⟨rfl, rfl⟩))
    go_ret2
    exact ⟨rfl, rfl⟩
set_option maxRecDepth 100000 in
/-- a whole number: too great -/
theorem int_no (n : Int) (w : World) (hw : -9223372036854775808 ≤ n ∧ n ≤ 9223372036854775807) (h : n < -99999999999999 ∨ 99999999999999 < n) :
    Calls Tryz.prog 120 #[.int .i64 n] w fun e w' => e = .returned (.tuple #[.int .i64 0, .bool false]) ∧ w = w' := by
  obtain ⟨h0, h1⟩ := hw
  obtain ⟨u, hu⟩ : ∃ u : Nat, n.natAbs = u := ⟨_, rfl⟩
  obtain ⟨hi, lo, e0, q0, q1, q2⟩ : ∃ hi lo : Int, ((u * 10000 : Nat) : Int) = hi * 18446744073709551616 + lo ∧ 0 ≤ hi ∧ 0 ≤ lo ∧ lo < 18446744073709551616 :=
    ⟨((u * 10000 / 18446744073709551616 : Nat) : Int), ((u * 10000 % 18446744073709551616 : Nat) : Int), by omega, by omega, by omega, by omega⟩
  have HM := Lib.hid fun w => mul_ii u 10000 hi lo w (by omega) (by omega) (by omega) (by omega) q0 q1 q2 (by omega)
  have hwn : n < 0 → IntKind.u64.wrap (-IntKind.u64.wrap n) = (u : Int) := fun hn => by rw [IntKind.wrap_u64, IntKind.wrap_u64]; omega
  have hwp : 0 ≤ n → IntKind.u64.wrap n = (u : Int) := fun hn => by rw [IntKind.wrap_u64]; omega
  have hbig : hi = 0 → 999999999999999999 < lo := by omega
  have HB := Lib.hid hbig
  clear hbig e0 h
  by_cases hn : n < 0
  · have hw := hwn hn
    clear hwn hwp hu h0 h1
    by_cases hz : hi = 0
    · have hl := HB.out hz
      subst hz
      go_enter Tryz.func120, Tryz.ntmps120
      go_wp2_with (first
        | (go_at_call 122; refine (HM.out _).mono ?_; rintro e w' ⟨rfl, rfl⟩)
        | (go_at_call 116; refine (made_over _ _ _ hl).mono ?_; rintro e w' ⟨rfl, rfl⟩))
      go_ret2
      exact ⟨rfl, rfl⟩
    · have hl : 0 < hi := by omega
      clear hz
      go_enter Tryz.func120, Tryz.ntmps120
      go_wp2_with (first
        | (go_at_call 122; refine (HM.out _).mono ?_; rintro e w' ⟨rfl, rfl⟩)
        | (go_at_call 116; refine (made_big _ _ _ _ hl).mono ?_; rintro e w' ⟨rfl, rfl⟩))
      go_ret2
      exact ⟨rfl, rfl⟩
  · have hw := hwp (by omega)
    have hn0 : (n : Int) = u := by omega
    have hu2 : (u : Int) ≤ 9223372036854775807 := by omega
    clear hwn hwp hu hw hn
    subst hn0
    clear h0 h1
    by_cases hz : hi = 0
    · have hl := HB.out hz
      subst hz
      go_enter Tryz.func120, Tryz.ntmps120
      go_wp2_with (first
        | (go_at_call 122; refine (HM.out _).mono ?_; rintro e w' ⟨rfl, rfl⟩)
        | (go_at_call 116; refine (made_over _ _ _ hl).mono ?_; rintro e w' ⟨rfl, rfl⟩))
      go_ret2
      exact ⟨rfl, rfl⟩
    · have hl : 0 < hi := by omega
      clear hz
      go_enter Tryz.func120, Tryz.ntmps120
      go_wp2_with (first
        | (go_at_call 122; refine (HM.out _).mono ?_; rintro e w' ⟨rfl, rfl⟩)
        | (go_at_call 116; refine (made_big _ _ _ _ hl).mono ?_; rintro e w' ⟨rfl, rfl⟩))
      go_ret2
      exact ⟨rfl, rfl⟩
end Go.Proofs.YtkobkeopajohiaaGreatDoor
