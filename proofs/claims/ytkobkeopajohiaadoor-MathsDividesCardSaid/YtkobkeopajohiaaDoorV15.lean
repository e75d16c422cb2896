/-
  THE HELPER one, at the slice that a law builds.
-/
import Derived.Test.YtkobkeopajohiaaDoorV13
namespace Go.Proofs.YtkobkeopajohiaaDoor
open Go.RowKit Go.Lib

theorem one_is (s : ByteArray) (b cap : Nat) (x y n : Int) (ok : Bool) (v : V) (w : World) (h0 : w.cell? ⟨b, 0, none⟩ = some (.int .i64 x)) (h1 : w.cell? ⟨b, 1, none⟩ = some (.int .i64 y)) (hb : b < w.heap.size)
    (hcall : ∀ g cap w', Below w.heap.size w w' → ArgsAt w' g [.num x, .num y] → Calls Tryd.prog 48 #[.string s, .slice (some ⟨g, 0, none⟩) 2 cap] w' fun e w'' => e = .returned v.val ∧ Below w'.heap.size w' w'') (hv : v.given = (n, ok)) :
    Calls Tryd.prog 41 #[.string s, .slice (some ⟨b, 0, none⟩) 2 cap] w fun e w' => e = .returned (.tuple #[.int .i64 n, .bool ok]) ∧ Below w.heap.size w w' := by
  have := one_two s b cap x y v w h0 h1 hb hcall
  rw [hv] at this
  exact this
theorem short_nums (a b : Int) : ∀ v ∈ [V.num a, V.num b], v.short 4294967 := by
  intro v hv; simp at hv; rcases hv with rfl | rfl <;> trivial
theorem new0 (w : World) (a b : Int) : (w.alloc (.cells #[.int .i64 a, .int .i64 b] 22)).cell? ⟨w.heap.size, 0, none⟩ = some (.int .i64 a) := by
  rw [World.cell?_alloc_at _ _ _ _ rfl]; rfl
theorem new1 (w : World) (a b : Int) : (w.alloc (.cells #[.int .i64 a, .int .i64 b] 22)).cell? ⟨w.heap.size, 1, none⟩ = some (.int .i64 b) := by
  rw [World.cell?_alloc_at _ _ _ _ rfl]; rfl
theorem new_lt (w : World) (o : Obj) : w.heap.size < (w.alloc o).heap.size := by simp

/-- one of a function of two numbers, at the slice that the law builds -/
abbrev OneIs (s : ByteArray) (a b n : Int) (ok : Bool) (W : World) : Prop := ∀ w, Below W.heap.size W w → Calls Tryd.prog 41 #[.string s, .slice (some ⟨w.heap.size, 0, none⟩) 2 2] (w.alloc (.cells #[.int .i64 a, .int .i64 b] 22)) fun e w' => e = .returned (.tuple #[.int .i64 n, .bool ok]) ∧ Below w.heap.size w w'
theorem oneIs_of (s : ByteArray) (a b n : Int) (ok : Bool) (v : V) (W : World)
    (hcall : ∀ g cap w', Below W.heap.size W w' → ArgsAt w' g [.num a, .num b] → Calls Tryd.prog 48 #[.string s, .slice (some ⟨g, 0, none⟩) 2 cap] w' fun e w'' => e = .returned v.val ∧ Below w'.heap.size w' w'') (hv : v.given = (n, ok)) : OneIs s a b n ok W := fun w hw => by
  have hal := hw.alloc hw.size (.cells #[.int .i64 a, .int .i64 b] 22)
  refine (one_is s w.heap.size 2 a b n ok v _ (new0 _ _ _) (new1 _ _ _) (new_lt _ _) (fun g cap w' hb hA => hcall g cap w' (hal.trans (hb.mono (by have := hw.size; simp; omega))) hA) hv).mono ?_
  rintro e w' ⟨rfl, hb⟩
  exact ⟨rfl, ((Below.refl _ _).alloc (Nat.le_refl _) _).trans (hb.mono (by simp))⟩
theorem nums_two (a b : Int) : nums [.num a, .num b] [] = ([a, b], 0) := rfl

theorem abs_ex (a : Int) (h0 : -999999999999999999 ≤ a ∧ a ≤ 999999999999999999) : ∃ A : Int, (∀ w, Calls Tryd.prog 19 #[.int .i64 a] w fun e w' => e = .returned (.int .i64 A) ∧ w = w') ∧ A = (a.natAbs : Int) :=
  ⟨_, fun w => abs_any a w (by omega) (by omega), rfl⟩
end Go.Proofs.YtkobkeopajohiaaDoor
