/-
  CONTRACTS of a vint.Writer: its bytes, gathered one behind the other.
-/
import Derived.Test.YtkobkeopajohiaaGreatDoorV4
import Derived.Test.YtkobkeopajohiaaGreatDoorR1
import Derived.Laws.BitsAllLaws
import Derived.LoopTactic
namespace Go.Proofs.YtkobkeopajohiaaGreatDoor
open Go.RowKit Go.Lib

/-- a number as bytes, seven bits a byte, the lowest first -/
def vint (u : Nat) : List UInt8 := if h : u < 128 then [UInt8.ofNat u] else UInt8.ofNat (u % 128 + 128) :: vint (u / 128)
termination_by u
decreasing_by omega
theorem vint_lo (u : Nat) (h : u < 128) : vint u = [UInt8.ofNat u] := by rw [vint, dif_pos h]
theorem vint_hi (u : Nat) (h : ¬ u < 128) : vint u = UInt8.ofNat (u % 128 + 128) :: vint (u / 128) := by rw [vint, dif_neg h]
theorem vint_len : ∀ (k u : Nat), u < 128 ^ (k + 1) → (vint u).length ≤ k + 1
  | 0, u, h => by rw [vint_lo u (by simpa using h)]; simp
  | k + 1, u, h => by
    by_cases hu : u < 128
    · rw [vint_lo u hu]; simp
    · rw [vint_hi u hu, List.length_cons]
      have := vint_len k (u / 128) (by rw [Nat.pow_succ] at h; omega)
      omega
abbrev byteV (c : UInt8) : Value := .int .u8 (c.toNat : Int)
/-- block b is a writer that has gathered these bytes; its row lies from base on -/
structure Wr (w : World) (b base : Nat) (l : List UInt8) : Prop where
  lt : b < base
  le : base ≤ w.heap.size
  fz : w.frozen? ⟨b, 0, none⟩ = false
  row : ∃ v, w.cell? ⟨b, 0, none⟩ = some v ∧ w.ownsRow base 5 1 v l.length (l.map byteV)
/-- nothing below base has turned but block b -/
def Kept (b base : Nat) (w w' : World) : Prop := Below b w w' ∧ ∀ k, k < base → k ≠ b → w'.heap[k]? = w.heap[k]?
theorem Kept.refl (b base : Nat) (w : World) : Kept b base w w := ⟨Below.refl _ _, fun _ _ _ => rfl⟩
theorem Kept.trans {b base : Nat} {w w' w'' : World} (h : Kept b base w w') (k : Kept b base w' w'') : Kept b base w w'' := ⟨h.1.trans k.1, fun i h1 h2 => (k.2 i h1 h2).trans (h.2 i h1 h2)⟩
theorem Kept.step {b base : Nat} {w w1 w3 : World} (h : Kept b base w w1) (hb : b < base) (hB : Below base w1 w3) (v : Value) : Kept b base w (w3.setCell ⟨b, 0, none⟩ v) :=
  h.trans ⟨Below.setCell (p := ⟨b, 0, none⟩) (hB.mono (Nat.le_of_lt hb)) (Nat.le_refl _) v, fun k h1 h2 => (Below.heap_setCell _ _ _ _ h2).trans (hB.block k h1)⟩
theorem Kept.cell {b base : Nat} {w w' : World} (h : Kept b base w w') {k j : Nat} (hk : k < base) (hb : k ≠ b) : w'.cell? ⟨k, j, none⟩ = w.cell? ⟨k, j, none⟩ := World.cell?_of_block (w := w) (h.2 k hk hb)
theorem Kept.frozen {b base : Nat} {w w' : World} (h : Kept b base w w') {k j : Nat} (hk : k < base) (hb : k ≠ b) : w'.frozen? ⟨k, j, none⟩ = w.frozen? ⟨k, j, none⟩ := World.frozen?_of_block (w := w) (h.2 k hk hb)
theorem info5 : (Tryz.prog.info? 5).map (fun i => (i.zero, i.size, i.bytes)) = some (some (.int .u8 0), 1, 1) := by kernel_rfl
theorem or_128 (x : Nat) : bits .or .u8 ((x : Int) % 256) 128 = ((x % 128 + 128 : Nat) : Int) := by
  have e : (x : Int) % 256 = ((x % 256 : Nat) : Int) := by omega
  rw [e, show (128 : Int) = ((128 : Nat) : Int) from rfl, u8_or_nat (x % 256) 128 (by omega) (by decide)]
  congr 1
  by_cases h : x % 256 < 128
  · rw [Nat.or_comm, nat_join 7 128 (x % 256) (by decide) (by omega)]; omega
  · have e2 : x % 256 = 128 + x % 128 := by omega
    have e3 := nat_join 7 128 (x % 128) (by decide) (by omega)
    rw [e2, ← e3, Nat.or_comm, ← Nat.or_assoc, Nat.or_self, e3]; omega
/-- behind an append and the store of its slice -/
theorem Wr.put {w w3 : World} {b base : Nat} {l : List UInt8} (h : Wr w b base l) {v' : Value} {c : UInt8} {y : Int} (hy : y = (c.toNat : Int)) (hown : w3.ownsRow base 5 1 v' (l.length + 1) (l.map byteV ++ [.int .u8 y])) (hb : Below (b + 1) w w3) :
    Wr (w3.setCell ⟨b, 0, none⟩ v') b base (l ++ [c]) := by
  obtain ⟨v, hc, _⟩ := h.row
  refine ⟨h.lt, by have := hb.size; have := h.le; simp [World.setCell]; omega, ?_, v', World.cell?_setCell_same _ _ _ ((hb.cell (by show b < b + 1; omega)).trans hc), ?_⟩
  · rw [World.frozen?_setCell, hb.frozen (by show b < b + 1; omega)]; exact h.fz
  · have := ownsRow_setCell_below hown (a := ⟨b, 0, none⟩) h.lt v'
    subst hy
    simpa using this

set_option maxHeartbeats 1600000 in
set_option maxRecDepth 100000 in
theorem wUint (u : Nat) (hu : u < 18446744073709551616) (b base : Nat) (l : List UInt8) (hl : l.length ≤ 1000000) (w : World) (hw : Wr w b base l) :
    Calls Tryz.prog 103 #[.pointer (some ⟨b, 0, none⟩), .int .u64 (u : Int)] w fun e w' => e = .returned (.tuple #[]) ∧ Wr w' b base (l ++ vint u) ∧ Kept b base w w' := by
  obtain ⟨i0, hi, hz0, hz1, hz2⟩ := info_parts info5
  have hvl := vint_len 9 u (by omega)
  have HW := Lib.hid hw
  clear hw
  go_enter Tryz.func103, Tryz.ntmps103
  go_wp2
  go_loopw [1] (fun a wr => ∃ (x : Nat) (m : List UInt8), a = .int .u64 (x : Int) ∧ x ≤ u ∧ Hid (Wr wr b base m) ∧ Hid (m ++ vint x = l ++ vint u) ∧ Hid (Kept b base w wr)) (fun a _ => (RowKit.intOf a).toNat)
  case atStart => exact ⟨u, l, rfl, Nat.le_refl _, HW, Lib.hid rfl, Lib.hid (Kept.refl _ _ _)⟩
  case round =>
    obtain ⟨x, m, rfl, hx, hwr, hinv, hbl⟩ := hrel
    obtain ⟨v, hc, hown⟩ := hwr.out.row
    have hfz := hwr.out.fz
    have hb := hwr.out.lt
    have hbs := hwr.out.le
    have HOwn := Lib.hid hown
    clear hown
    by_cases h : x < 128
    · have hmod : (x : Int) % 256 = (x : Int) := by omega
      have HYY : Hid ((x : Int) = ((UInt8.ofNat x).toNat : Int)) := Lib.hid (by rw [UInt8.toNat_ofNat']; omega)
      have hlen := Lib.hid (show m.length ≤ 1000010 by
        have := congrArg List.length hinv.out
        rw [List.length_append, List.length_append] at this
        omega)
      have HWr := hwr
      have HBl := hbl
      clear hwr hbl
      go_wp2_with (first | (at_builtin; refine wpList_append_own _ rfl _ _ 59 rfl base 5 i0 (.int .u8 0) 1 1 Tryz.underlying59 hi hz0 hz1 hz2 rfl (by decide) _ _ _ rfl (HOwn.out.alloc _) ⟨wr.heap.size, 0, none⟩ 1 1 [.int .u8 (x : Int)] rfl rfl ?c1 ?c2 ?c3 ?c4 ?c5 ?_))
      case c1 => exact news_one _ _ _
      case c2 => intro u hu; simp at hu; subst hu; rfl
      case c3 => have := hlen.out; simp; unfold maxLen; omega
      case c4 => have := hlen.out; simp; omega
      case c5 => simp; omega
      intro v' w3 hown3 hgrow3 _
      obtain ⟨g3, cap3, rfl, _, _⟩ := hown3.form (by simp)
      have hBb : Below base wr w3 := ((Below.refl _ _).alloc (by omega) _).grown hgrow3 (by simp; omega) (fun k e => owns_row HOwn.out k e)
      have hB3 : Below (b + 1) wr w3 := hBb.mono (by omega)
      have hc3 : w3.cell? ⟨b, 0, none⟩ = some v := (hB3.cell (by show b < b + 1; omega)).trans hc
      have hf3 : w3.frozen? ⟨b, 0, none⟩ = false := (hB3.frozen (by show b < b + 1; omega)).trans hfz
      have HW4 := Lib.hid (HWr.out.put (c := UInt8.ofNat x) (y := (x : Int)) HYY.out (by simpa using hown3) hB3)
      have HB4 := Lib.hid fun v' => HBl.out.step hb hBb v'
      clear hown3 hgrow3 hB3 hBb HWr HBl HOwn hc
      go_wp2
      go_end0
      exact ⟨rfl, by rw [← hinv.out, vint_lo x h]; exact HW4.out, HB4.out _⟩
    · obtain ⟨y, hy⟩ : ∃ y : Int, y = ((x % 128 + 128 : Nat) : Int) := ⟨_, rfl⟩
      have hor : bits .or .u8 ((x : Int) % 256) 128 = y := by rw [or_128, hy]
      have HYY : Hid (y = ((UInt8.ofNat (x % 128 + 128)).toNat : Int)) := Lib.hid (by rw [UInt8.toNat_ofNat', hy]; omega)
      clear hy
      have hlen := Lib.hid (show m.length ≤ 1000010 by
        have := congrArg List.length hinv.out
        rw [List.length_append, List.length_append] at this
        omega)
      have HWr := hwr
      have HBl := hbl
      clear hwr hbl
      go_wp2_with (first | (at_builtin; refine wpList_append_own _ rfl _ _ 59 rfl base 5 i0 (.int .u8 0) 1 1 Tryz.underlying59 hi hz0 hz1 hz2 rfl (by decide) _ _ _ rfl (HOwn.out.alloc _) ⟨wr.heap.size, 0, none⟩ 1 1 [.int .u8 y] rfl rfl ?c1 ?c2 ?c3 ?c4 ?c5 ?_))
      case c1 => exact news_one _ _ _
      case c2 => intro u hu; simp at hu; subst hu; rfl
      case c3 => have := hlen.out; simp; unfold maxLen; omega
      case c4 => have := hlen.out; simp; omega
      case c5 => simp; omega
      intro v' w3 hown3 hgrow3 _
      obtain ⟨g3, cap3, rfl, _, _⟩ := hown3.form (by simp)
      have hBb : Below base wr w3 := ((Below.refl _ _).alloc (by omega) _).grown hgrow3 (by simp; omega) (fun k e => owns_row HOwn.out k e)
      have hB3 : Below (b + 1) wr w3 := hBb.mono (by omega)
      have hc3 : w3.cell? ⟨b, 0, none⟩ = some v := (hB3.cell (by show b < b + 1; omega)).trans hc
      have hf3 : w3.frozen? ⟨b, 0, none⟩ = false := (hB3.frozen (by show b < b + 1; omega)).trans hfz
      have HW4 := Lib.hid (HWr.out.put (c := UInt8.ofNat (x % 128 + 128)) (y := y) HYY.out (by simpa using hown3) hB3)
      have HB4 := Lib.hid fun v' => HBl.out.step hb hBb v'
      clear hown3 hgrow3 hB3 hBb HWr HBl HOwn hc
      go_wp2
      go_roundw
      case rel => exact ⟨x / 128, m ++ [UInt8.ofNat (x % 128 + 128)], rfl, by omega, HW4, Lib.hid (by rw [← hinv.out, vint_hi x h, List.append_assoc]; rfl), Lib.hid (HB4.out _)⟩
      case measure => simp [RowKit.intOf]; omega
end Go.Proofs.YtkobkeopajohiaaGreatDoor
