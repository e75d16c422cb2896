/-
  CONTRACTS of a vint.Writer, more: Int, Text, Bytes; value.Put.
-/
import Derived.Test.YtkobkeopajohiaaGreatDoorK1
import Derived.Test.YtkobkeopajohiaaGreatDoorH1
import Derived.Lib.AppendStr
namespace Go.Proofs.YtkobkeopajohiaaGreatDoor
open Go.RowKit Go.Lib

/-- a number's sign folded in -/
def fold (n : Int) : Nat := if 0 ≤ n then (2 * n).toNat else (-2 * n - 1).toNat
theorem xor_ones (k a : Nat) (h : a < 2 ^ k) : a ^^^ (2 ^ k - 1) = 2 ^ k - (a + 1) := by
  apply Nat.eq_of_testBit_eq
  intro i
  rw [Nat.testBit_xor, Nat.testBit_two_pow_sub_one, Nat.testBit_two_pow_sub_succ h]
  by_cases hi : i < k
  · simp [hi]
  · have : a.testBit i = false := Nat.testBit_lt_two_pow (Nat.lt_of_lt_of_le h (Nat.pow_le_pow_right (by decide) (by omega)))
    simp [hi, this]
theorem fold_pos (n : Int) (h0 : 0 ≤ n) (h1 : n ≤ 1000000000000000000) : bits .xor .u64 (n * 2) (n / 9223372036854775808) = (fold n : Int) := by
  have e1 : n * 2 = (((2 * n).toNat : Nat) : Int) := by omega
  have e2 : n / 9223372036854775808 = ((0 : Nat) : Int) := by omega
  rw [e1, e2, u64_xor_nat _ _ (by omega) (by decide), Nat.xor_zero]
  unfold fold
  rw [if_pos h0]
theorem fold_neg (n : Int) (h0 : n < 0) (h1 : -1000000000000000000 ≤ n) :
    bits .xor .u64 (IntKind.u64.wrap (IntKind.u64.wrap n * 2)) (IntKind.u64.wrap (n / 9223372036854775808)) = (fold n : Int) := by
  have e1 : IntKind.u64.wrap (IntKind.u64.wrap n * 2) = (((2 * n + 18446744073709551616).toNat : Nat) : Int) := by
    rw [IntKind.wrap_u64, IntKind.wrap_u64]; omega
  have e2 : IntKind.u64.wrap (n / 9223372036854775808) = ((2 ^ 64 - 1 : Nat) : Int) := by
    rw [IntKind.wrap_u64]; omega
  rw [e1, e2, u64_xor_nat _ _ (by omega) (by decide), xor_ones 64 _ (by omega)]
  unfold fold
  rw [if_neg (by omega)]
  omega
theorem fold_lt (n : Int) (h : -1000000000000000000 ≤ n ∧ n ≤ 1000000000000000000) : fold n < 18446744073709551616 := by
  unfold fold
  split <;> omega
set_option maxRecDepth 100000 in
theorem wInt (n : Int) (hn : -1000000000000000000 ≤ n ∧ n ≤ 1000000000000000000) (b base : Nat) (l : List UInt8) (hl : l.length ≤ 1000000) (w : World) (hw : Wr w b base l) :
    Calls Tryz.prog 104 #[.pointer (some ⟨b, 0, none⟩), .int .i64 n] w fun e w' => e = .returned (.tuple #[]) ∧ Wr w' b base (l ++ vint (fold n)) ∧ Kept b base w w' := by
  have HU := Lib.hid (wUint (fold n) (fold_lt n hn) b base l hl w hw)
  clear hw hl
  obtain ⟨hn1, hn2⟩ := hn
  by_cases h0 : 0 ≤ n
  · have hf := fold_pos n h0 hn2
    generalize (fold n : Int) = z at *
    go_enter Tryz.func104, Tryz.ntmps104
    go_wp2_with (first | (go_at_call 103; fail))
    go_at_call 103
    refine HU.out.mono ?_
    rintro e w1 ⟨rfl, hw1, hb1⟩
    go_wp2
    go_end0
    exact ⟨rfl, hw1, hb1⟩
  · have h0' : n < 0 := by omega
    have hf := fold_neg n h0' hn1
    generalize (fold n : Int) = z at *
    go_enter Tryz.func104, Tryz.ntmps104
    go_wp2_with (first | (go_at_call 103; fail))
    go_at_call 103
    refine HU.out.mono ?_
    rintro e w1 ⟨rfl, hw1, hb1⟩
    go_wp2
    go_end0
    exact ⟨rfl, hw1, hb1⟩
theorem Wr.puts {w w3 : World} {b base : Nat} {l : List UInt8} (h : Wr w b base l) {v' : Value} {s : ByteArray} (hown : w3.ownsRow base 5 1 v' (l.length + s.size) (l.map byteV ++ strCells s)) (hb : Below (b + 1) w w3) :
    Wr (w3.setCell ⟨b, 0, none⟩ v') b base (l ++ s.data.toList) := by
  obtain ⟨v, hc, _⟩ := h.row
  refine ⟨h.lt, by have := hb.size; have := h.le; simp [World.setCell]; omega, ?_, v', World.cell?_setCell_same _ _ _ ((hb.cell (by show b < b + 1; omega)).trans hc), ?_⟩
  · rw [World.frozen?_setCell, hb.frozen (by show b < b + 1; omega)]; exact h.fz
  · have := ownsRow_setCell_below hown (a := ⟨b, 0, none⟩) h.lt v'
    rw [List.length_append, List.map_append, ← size_eq]
    exact this
theorem Wr.below {w w' : World} {b base : Nat} {l : List UInt8} (h : Wr w b base l) (hb : Below w.heap.size w w') : Wr w' b base l := by
  obtain ⟨v, hc, hown⟩ := h.row
  have hl : b < w.heap.size := Nat.lt_of_lt_of_le h.lt h.le
  exact ⟨h.lt, Nat.le_trans h.le hb.size, (hb.frozen hl).trans h.fz, v, (hb.cell hl).trans hc, owns_below hown hb⟩
set_option maxHeartbeats 1600000 in
set_option maxRecDepth 100000 in
theorem wText (s : ByteArray) (hs : s.size ≤ 100000) (b base : Nat) (l : List UInt8) (hl : l.length ≤ 100000) (w : World) (hw : Wr w b base l) :
    Calls Tryz.prog 105 #[.pointer (some ⟨b, 0, none⟩), .string s] w fun e w' => e = .returned (.tuple #[]) ∧ Wr w' b base (l ++ (vint s.size ++ s.data.toList)) ∧ Kept b base w w' := by
  obtain ⟨i0, hi, hz0, hz1, hz2⟩ := info_parts info5
  have hvl := vint_len 9 s.size (by omega)
  have HU := Lib.hid (wUint s.size (by omega) b base l (by omega) w hw)
  have hb := hw.lt
  clear hw
  go_enter Tryz.func105, Tryz.ntmps105
  go_wp2_with (first | (go_at_call 103; fail))
  go_at_call 103
  refine HU.out.mono ?_
  rintro e wr ⟨rfl, hwr, hbl⟩
  obtain ⟨v, hc, hown⟩ := hwr.row
  have hfz := hwr.fz
  have hbs := hwr.le
  have HWr := Lib.hid hwr
  have HBl := Lib.hid hbl
  have HOwn := Lib.hid hown
  have hm : (l ++ vint s.size).length ≤ 100010 := by rw [List.length_append]; omega
  have HApp := Lib.hid (show (l ++ vint s.size) ++ s.data.toList = l ++ (vint s.size ++ s.data.toList) from List.append_assoc ..)
  have hm0 : 0 < (l ++ vint s.size).length := by
    rw [List.length_append]
    have : 0 < (vint s.size).length := by rw [vint]; split <;> simp
    omega
  generalize l ++ vint s.size = m at *
  have HL := Lib.hid hm
  have HL0 := Lib.hid hm0
  clear hwr hbl hown hm hm0 hvl HU
  go_wp2_with (first | (at_builtin; refine wpList_append_own_string _ rfl _ _ 59 9 rfl base 5 i0 Tryz.underlying59 Tryz.underlying9 hi hz0 hz1 hz2 _ _ _ rfl HOwn.out s rfl ?c3 ?c4 ?c5 ?_))
  case c3 => have := HL.out; unfold maxLen; omega
  case c4 => have := HL.out; omega
  case c5 => omega
  intro v' w3 hown3 hgrow3 _
  have hp0 : 0 < m.length + s.size := by have := HL0.out; omega
  obtain ⟨g3, cap3, rfl, _, _⟩ := hown3.form hp0
  have hBb : Below base wr w3 := (Below.refl _ _).grown hgrow3 (by omega) (fun k e => owns_row HOwn.out k e)
  have hB3 : Below (b + 1) wr w3 := hBb.mono (by omega)
  have hc3 : w3.cell? ⟨b, 0, none⟩ = some v := (hB3.cell (by show b < b + 1; omega)).trans hc
  have hf3 : w3.frozen? ⟨b, 0, none⟩ = false := (hB3.frozen (by show b < b + 1; omega)).trans hfz
  have HW4 := Lib.hid (HWr.out.puts hown3 hB3)
  have HB4 := Lib.hid fun v' => HBl.out.step hb hBb v'
  clear hown3 hgrow3 hB3 hBb HWr HBl HOwn hc hp0
  go_wp2
  go_end0
  exact ⟨rfl, by rw [← HApp.out]; exact HW4.out, HB4.out _⟩
set_option maxRecDepth 100000 in
theorem wBytes (b base : Nat) (l : List UInt8) (hl : 0 < l.length) (w : World) (hw : Wr w b base l) :
    Calls Tryz.prog 32 #[.pointer (some ⟨b, 0, none⟩)] w fun e w' => e = .returned (.string ⟨l.toArray⟩) ∧ Below w.heap.size w w' := by
  obtain ⟨v, hc, hown⟩ := hw.row
  obtain ⟨g, cap, rfl, _, _⟩ := hown.form hl
  have hcv : (convert 59 9 (.slice (some ⟨g, 0, none⟩) l.length cap)).run Tryz.prog w = .ok (.string ⟨l.toArray⟩) w := by
    refine run_convert_bytes_back w 59 9 5 ⟨g, 0, none⟩ cap l Tryz.underlying59 Tryz.underlying5 Tryz.underlying9 fun j hj => ?_
    rw [Go.WideShapes.add_plain, Nat.zero_add]
    refine (hown.cellAt j (by omega)).trans ?_
    rw [List.getElem?_map, List.getElem?_eq_getElem hj]
    rfl
  clear hw hown hl
  go_enter Tryz.func32, Tryz.ntmps32
  go_wp2
  go_ret
  exact ⟨rfl, by go_grown⟩
end Go.Proofs.YtkobkeopajohiaaGreatDoor
