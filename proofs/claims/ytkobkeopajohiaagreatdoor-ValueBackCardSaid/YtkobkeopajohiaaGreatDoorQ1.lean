/-
  PLAIN DATA; a number's draws; the law's Cut; a sum (out of other texts, so that a claim needs fewer).
-/
import Derived.Test.YtkobkeopajohiaaGreatDoorV2
import Derived.Test.YtkobkeopajohiaaGreatDoorR1
namespace Go.Proofs.YtkobkeopajohiaaGreatDoor
open Go.RowKit Go.Lib

theorem below_drewN {B : Nat} {a w : World} (h : Below B a w) (k : Nat) : Below B a (w.drewN k) := ⟨h.os, h.tape, h.output, h.size, h.block⟩
theorem add_is (a b n : Int) (ok : Bool) (w : World) (h : -2000000000000000000 ≤ a + b ∧ a + b ≤ 2000000000000000000) (hf : Tab.fit (a + b) = (n, ok)) :
    Calls Tryz.prog 93 #[.int .i64 a, .int .i64 b] w fun e w' => e = .returned (.tuple #[.int .i64 n, .bool ok]) ∧ w = w' := by
  have := add_any a b w h
  rw [hf] at this
  exact this
theorem lawCut_any (s t : ByteArray) (n : Nat) (w : World) (h : t.data.toList = s.data.toList.take n) :
    Calls Tryz.prog 7 #[.string s, .int .i64 n] w fun e w' => e = .returned (.string t) ∧ w = w' := by
  by_cases hl : n < s.size
  · have hx : (s.extract 0 n).data.toList = t.data.toList := by rw [extract_data, h]; simp
    have HX := Lib.hid hx
    clear hx h
    go_enter Tryz.func7, Tryz.ntmps7
    go_wp2
    go_ret
    exact ⟨ret_str HX.out, rfl⟩
  · have hx : s.data.toList = t.data.toList := by rw [h, List.take_of_length_le (by rw [← size_eq]; omega)]
    have HX := Lib.hid hx
    clear hx h
    go_enter Tryz.func7, Tryz.ntmps7
    go_wp2
    go_ret
    exact ⟨ret_str HX.out, rfl⟩

/-- plain data -/
structure P where
  kind : Int
  n : Int
  s : ByteArray
def P.val (p : P) : Value := .agg #[.int .i64 p.kind, .int .i64 p.n, .string p.s]
/-- with its text cut -/
def P.cut (p : P) (n : Nat) : P := ⟨p.kind, p.n, ⟨(p.s.data.toList.take n).toArray⟩⟩
def PlainsAt (w : World) (b off : Nat) (ps : List P) : Prop := b < w.heap.size ∧ ∀ k p, ps[k]? = some p →
  w.cell? ⟨b, off + k * 3, none⟩ = some (.int .i64 p.kind) ∧ w.cell? ⟨b, off + k * 3 + 1, none⟩ = some (.int .i64 p.n) ∧ w.cell? ⟨b, off + k * 3 + 2, none⟩ = some (.string p.s)
theorem PlainsAt.below {w w' : World} {b off : Nat} {ps : List P} {B : Nat} (h : PlainsAt w b off ps) (hb : Below B w w') (hB : b < B) : PlainsAt w' b off ps :=
  ⟨Nat.lt_of_lt_of_le h.1 hb.size, fun k p e => ⟨(hb.cell hB).trans (h.2 k p e).1, (hb.cell hB).trans (h.2 k p e).2.1, (hb.cell hB).trans (h.2 k p e).2.2⟩⟩
theorem size_cut (s : ByteArray) (n : Nat) : (⟨(s.data.toList.take n).toArray⟩ : ByteArray).data.toList = s.data.toList.take n := rfl

end Go.Proofs.YtkobkeopajohiaaGreatDoor
