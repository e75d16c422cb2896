/-
  CONTRACTS for the law ValueFails: Told, AsText, AsBool, Hold, Arith and Join at failures.
-/
import Derived.Test.YtkobkeopajohiaaGreatDoorG9
import Derived.Test.YtkobkeopajohiaaGreatDoorG5
namespace Go.Proofs.YtkobkeopajohiaaGreatDoor
open Go.RowKit Go.Lib

def V.kind : V → Int | .num _ => 1 | .text _ => 2 | .bool _ => 3 | .fail _ => 4 | .blank => 0
theorem tell_kind (v : V) : ∃ b s, v.tell = .agg #[.int .i64 v.kind, .int .i64 b, .string s] := by
  cases v <;> exact ⟨_, _, rfl⟩
theorem set_three (w : World) (b : Nat) (x y z : Value) {o0 o1 o2 : Value} (h0 : w.cell? ⟨b, 0, none⟩ = some o0) (h1 : w.cell? ⟨b, 1, none⟩ = some o1) (h2 : w.cell? ⟨b, 2, none⟩ = some o2) :
    (((w.setCell ⟨b, 0, none⟩ x).setCell ⟨b, 1, none⟩ y).setCell ⟨b, 2, none⟩ z).cell? ⟨b, 0, none⟩ = some x ∧ (((w.setCell ⟨b, 0, none⟩ x).setCell ⟨b, 1, none⟩ y).setCell ⟨b, 2, none⟩ z).cell? ⟨b, 1, none⟩ = some y ∧ (((w.setCell ⟨b, 0, none⟩ x).setCell ⟨b, 1, none⟩ y).setCell ⟨b, 2, none⟩ z).cell? ⟨b, 2, none⟩ = some z := by
  refine ⟨?_, ?_, ?_⟩
  · rw [World.cell?_setCell_other _ _ _ _ (by simp), World.cell?_setCell_other _ _ _ _ (by simp)]
    exact World.cell?_setCell_same _ _ _ h0
  · rw [World.cell?_setCell_other _ _ _ _ (by simp)]
    exact World.cell?_setCell_same _ _ _ (by rw [World.cell?_setCell_other _ _ _ _ (by simp)]; exact h1)
  · exact World.cell?_setCell_same _ _ _ (by rw [World.cell?_setCell_other _ _ _ _ (by simp), World.cell?_setCell_other _ _ _ _ (by simp)]; exact h2)
set_option maxRecDepth 100000 in
theorem told_any (v : V) (w : World) :
    Calls Tryz.prog 12 #[v.val] w fun e w' => e = .returned v.tell ∧ Below w.heap.size w w' := by
  have HT := Lib.hid fun w => tell_any v w
  obtain ⟨a, b, s, hy⟩ := tell_form v
  rw [hy] at HT ⊢
  clear hy
  rw [V.val_eq] at HT ⊢
  generalize v.ty = t at *
  generalize v.raw = x at *
  go_enter Tryz.func12, Tryz.ntmps12
  go_wp2_with (first | (go_at_call 37; fail))
  go_at_call 37
  refine (HT.out _).mono ?_
  rintro e w1 ⟨rfl, hb⟩
  have hlt : w.heap.size < w1.heap.size := by have := hb.size; simp at this; omega
  have hc : ∀ j, w1.cell? ⟨w.heap.size, j, none⟩ = (#[Value.int .i64 0, .int .i64 0, .string { data := #[] }])[j]? := fun j => by
    rw [hb.cell (by simp), World.cell?_alloc_at _ _ _ _ rfl]
  have hf : ∀ j, w1.frozen? ⟨w.heap.size, j, none⟩ = false := fun j => by
    rw [hb.frozen (by simp)]; simp
  have hb0 : Below w.heap.size w w1 := ((Below.refl _ _).alloc (Nat.le_refl _) _).trans (hb.mono (by simp))
  clear hb
  go_wp2
  obtain ⟨e0, e1, e2⟩ := set_three w1 w.heap.size (.int .i64 a) (.int .i64 b) (.string s) (hc 0) (hc 1) (hc 2)
  have hsz : (((w1.setCell ⟨w.heap.size, 0, none⟩ (.int .i64 a)).setCell ⟨w.heap.size, 1, none⟩ (.int .i64 b)).setCell ⟨w.heap.size, 2, none⟩ (.string s)).heap.size = w1.heap.size := by simp [World.setCell]
  have hbf : Below w.heap.size w (((w1.setCell ⟨w.heap.size, 0, none⟩ (.int .i64 a)).setCell ⟨w.heap.size, 1, none⟩ (.int .i64 b)).setCell ⟨w.heap.size, 2, none⟩ (.string s)) :=
    ((hb0.setCell (Nat.le_refl _) _).setCell (Nat.le_refl _) _).setCell (Nat.le_refl _) _
  generalize (((w1.setCell ⟨w.heap.size, 0, none⟩ (.int .i64 a)).setCell ⟨w.heap.size, 1, none⟩ (.int .i64 b)).setCell ⟨w.heap.size, 2, none⟩ (.string s)) = wf at *
  have g : ∀ j, (wf.alloc (.cells #[.int .i64 a, .int .i64 b, .string s] 41)).cell? ⟨w.heap.size, j, none⟩ = wf.cell? ⟨w.heap.size, j, none⟩ := fun j => World.cell?_alloc_past _ _ _ (by show w.heap.size < wf.heap.size; omega)
  have g0 := (g 0).trans e0
  have g1 := (g 1).trans e1
  have g2 := (g 2).trans e2
  refine bodyPost_ret (v := .agg #[.int .i64 a, .int .i64 b, .string s]) (by simp [results, Tryz.results12, go_sem, g0, g1, g2]) rfl ?_
  exact ⟨rfl, hbf.alloc (by omega) _⟩
end Go.Proofs.YtkobkeopajohiaaGreatDoor
