/-
  PLAIN DATA THAT COME IN: a slice of them, opened.
-/
import Derived.Test.YtkobkeopajohiaaGreatDoorQ1
import Derived.Deep.Slices
import Derived.Lib.SmallJoins
namespace Go.Proofs.YtkobkeopajohiaaGreatDoor
open Go.RowKit Go.Lib Go.Deep

instance : Inhabited P := ⟨⟨0, 0, ByteArray.empty⟩⟩
theorem cells75 : Tryz.prog.cellsOf 41 = 3 := by kernel_rfl
theorem cells3 : Tryz.prog.cellsOf 3 = 1 := by kernel_rfl
theorem cells22 : Tryz.prog.cellsOf 39 = 1 := by kernel_rfl
theorem cells9 : Tryz.prog.cellsOf 9 = 1 := by kernel_rfl
/-- within the bounds of its fields' types -/
def P.fits (p : P) : Prop := (-9223372036854775808 ≤ p.kind ∧ p.kind ≤ 9223372036854775807) ∧ (-9223372036854775808 ≤ p.n ∧ p.n ≤ 9223372036854775807) ∧ p.s.size ≤ maxLen
set_option maxRecDepth 100000 in
theorem open_plains {H : Type} {enc : TypeId × Value → H} {w : World} {base fuel : Nat} {held : Bool} {cs : List Value} {x : DataW H × List MemPlace} (h : DataW.trod enc Tryz.prog w base (fun _ => true) held fuel 22 cs = some x) :
    ∃ (a : Option Addr) (len cap : Nat) (ps : List P), cs = [.slice a len cap] ∧ len ≤ cap ∧ cap ≤ maxLen ∧ ps.length = len ∧ (∀ p ∈ ps, p.fits) ∧ (0 < len → ∃ b off, a = some ⟨b, off, none⟩ ∧ PlainsAt w b off ps) := by
  rcases open_slice Tryz.underlying22 h with ⟨rfl, _⟩ | ⟨a, len, cap, m, n, D, Pl, rfl, hb, hl, hm, hmm, rfl, hx⟩
  · exact ⟨none, 0, 0, [], rfl, Nat.le_refl _, Nat.zero_le _, rfl, fun p hp => by simp at hp, fun h => absurd h (by omega)⟩
  have each : ∀ i, i < len → ∃ p : P, p.fits ∧ w.cell? (a.add (i * 3)) = some (.int .i64 p.kind) ∧ w.cell? (a.add (i * 3 + 1)) = some (.int .i64 p.n) ∧ w.cell? (a.add (i * 3 + 2)) = some (.string p.s) := by
    intro i hi
    obtain ⟨cs', h1, h2⟩ := hx i (by rw [hmm]; simp; omega)
    rw [cells75] at h1
    obtain ⟨_, hlen, hcell⟩ := World.cells?_some h1
    obtain ⟨y0, y1, y2, k, hxy, _, g0, g1, g2⟩ := trod_struct3 Tryz.underlying41 h2
    match cs', hlen with
    | [v0, v1, v2], _ =>
      simp [cells3, cells22, cells9] at g0 g1 g2
      obtain ⟨z0, e0, _, w0⟩ := DataW.trod_int Tryz.underlying3 g0
      obtain ⟨z1, e1, _, w1⟩ := DataW.trod_int Tryz.underlying39 g1
      obtain ⟨z2, e2, _, w2⟩ := DataW.trod_string Tryz.underlying9 g2
      simp at e0 e1 e2
      subst e0 e1 e2
      have c0 := hcell 0 (by omega)
      have c1 := hcell 1 (by omega)
      have c2 := hcell 2 (by omega)
      rw [add_add] at c0 c1 c2
      exact ⟨⟨z0, z1, z2⟩, ⟨bounds_i64 w0, bounds_i64 w1, w2⟩, by simpa using c0, by simpa using c1, by simpa using c2⟩
  obtain ⟨f, hf⟩ := choose_lt each
  refine ⟨some a, len, cap, (List.range len).map f, rfl, hl, hm, by simp, fun p hp => ?_, fun h0 => ?_⟩
  · obtain ⟨i, hi, rfl⟩ := List.mem_map.1 hp
    exact (hf i (by simpa using hi)).1
  · obtain ⟨b, off, spot⟩ := a
    have hspot : spot = none := by simpa [Addr.add] using World.cell?_spot (hf 0 h0).2.1
    subst hspot
    refine ⟨b, off, rfl, lt_of_cell (hf 0 h0).2.1, fun k p hk => ?_⟩
    have hk' : k < len := by have := (List.getElem?_eq_some_iff.1 hk).1; simpa using this
    have hp : p = f k := by simpa [hk'] using hk.symm
    subst hp
    obtain ⟨_, c0, c1, c2⟩ := hf k hk'
    rw [Go.WideShapes.add_plain] at c0 c1 c2
    exact ⟨c0, c1, by simpa [Nat.add_assoc] using c2⟩
end Go.Proofs.YtkobkeopajohiaaGreatDoor
