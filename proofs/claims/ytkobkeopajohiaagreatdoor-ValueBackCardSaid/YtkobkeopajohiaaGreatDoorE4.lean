/-
  A PLAIN DATUM THAT COMES IN, by value: opened; how long its text is.
-/
import Derived.Test.YtkobkeopajohiaaGreatDoorE1
import Derived.SizedLaws
import Derived.OpenShut
namespace Go.Proofs.YtkobkeopajohiaaGreatDoor
open Go.RowKit Go.Lib Go.ChangeShapes Go.WideShapes

def P.data {H : Type} (p : P) : DataW H := .agg [.lit (.int .i64 p.kind), .lit (.int .i64 p.n), .lit (.string p.s.data.toList)]
set_option maxRecDepth 100000 in
theorem open_plain {H : Type} {enc : TypeId × Value → H} {w : World} {r : Reach} {b0 base : Nat} {spare : Nat → Bool} {held : Bool} {v : Value} {d : DataW H} {ps : List MemPlace} (hv : Value.okWide Tryz.prog w r b0 41 v) (h : DataW.Trod enc Tryz.prog w base spare held 41 v d ps) :
    ∃ x : P, v = x.val ∧ x.fits ∧ d = x.data := by
  obtain ⟨v0, v1, v2, y0, y1, y2, n, rfl, rfl, _, g0, g1, g2⟩ := Joins.open_agg3 Tryz.underlying41 (by kernel_rfl) cells75 hv h
  obtain ⟨z0, e0, d0, w0⟩ := DataW.trod_int Tryz.underlying3 g0
  obtain ⟨z1, e1, d1, w1⟩ := DataW.trod_int Tryz.underlying39 g1
  obtain ⟨z2, e2, d2, w2⟩ := DataW.trod_string Tryz.underlying9 g2
  simp at e0 e1 e2
  subst e0 e1 e2 d0 d1 d2
  exact ⟨⟨z0, z1, z2⟩, rfl, ⟨bounds_i64 w0, bounds_i64 w1, w2⟩, rfl⟩
theorem plain_sized {H : Type} {ts : List TypeId} {ds : List (DataW H)} (h : (DataW.weightsEach Tryz.prog ts ds).all (· ≤ reachBytes) = true) (j : Nat) (ht : ts[j]? = some 41) {x : P} (hd : ds[j]? = some x.data) : x.s.size ≤ 9223372036854775800 := by
  have := List.all_eq_true.1 h _ (DataW.weights_mem_each ht hd x.s.data.toList.length (by simp [DataW.weights, DataW.weightsEach, Tryz.underlying41, P.data]))
  have h2 : x.s.data.toList.length ≤ reachBytes := by simpa using this
  rw [← size_eq] at h2
  exact Nat.le_trans h2 (by decide)
end Go.Proofs.YtkobkeopajohiaaGreatDoor
