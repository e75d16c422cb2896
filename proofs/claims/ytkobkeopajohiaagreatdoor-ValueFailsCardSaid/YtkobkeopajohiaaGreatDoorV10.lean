/-
  THE LAW HELPER one OF LAYER 16: a function of two numbers.
-/
import Derived.Test.YtkobkeopajohiaaGreatDoorV9
import Derived.Test.YtkobkeopajohiaaGreatDoorV8
namespace Go.Proofs.YtkobkeopajohiaaGreatDoor
open Go.RowKit Go.Lib

theorem owns_empty (w : World) : (w.alloc (.cells #[] 98)).ownsRow w.heap.size 98 4 (.slice (some ⟨w.heap.size, 0, none⟩) 0 0) 0 [] :=
  ⟨rfl, .inr ⟨w.heap.size, 0, #[], rfl, Nat.le_refl _, last_block _ _ _ rfl, Nat.le_refl _, Nat.zero_le _, rfl, rfl⟩⟩
theorem news_block (w : World) (cs : List Value) (T : TypeId) : ∀ (j : Nat) (u : Value), cs[j]? = some u → (w.alloc (.cells cs.toArray T)).cell? ((⟨w.heap.size, 0, none⟩ : Addr).add j) = some u := fun j u h =>
  World.news_of_block (cs := cs.toArray) (t := T) (fr := (0, 0)) (last_block _ _ _ rfl) j u (by simpa using h)
theorem argCells_one (r : Nat) : ∀ u ∈ argCells r, u.oneCell' = true := fun u hu => by
  simp [argCells] at hu
  rcases hu with rfl | rfl | rfl <;> rfl
/-- the step: one argument more, in a block of its own -/
theorem GathersR.one {w1 w3 : World} {base : Nat} {v : Value} {vs : List V} {rs : List Nat} (u : V) (r : Nat) (h : GathersR w1 base v vs rs) (hr : Held w1 r u) (hv : v.ownBlock ≠ some r)
    (o : Obj) (g cap : Nat) (hown : w3.ownsRow base 98 4 (.slice (some ⟨g, 0, none⟩) (vs.length + 1) cap) (vs.length + 1) (rs.flatMap argCells ++ argCells r)) (hgrow : (w1.alloc o).grownBy w3 v.ownBlock) (hat : v.ownBlock = some g ∨ g = (w1.alloc o).heap.size) :
    GathersR w3 base (.slice (some ⟨g, 0, none⟩) (vs.length + 1) cap) (vs ++ [u]) (rs ++ [r]) := by
  have hb : Below w1.heap.size w1 (w1.alloc o) := (Below.refl _ _).alloc (Nat.le_refl _) o
  refine (h.below hb).more (us := [u]) (rs' := [r]) rfl (fun i r' u' h1 h2 => ?_) g cap (by simpa using hown) hgrow hat
  match i, h1, h2 with
  | 0, h1, h2 =>
    simp at h1 h2; subst h1 h2
    exact ⟨hr.below hb hr.1, hv⟩

end Go.Proofs.YtkobkeopajohiaaGreatDoor
