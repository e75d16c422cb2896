/-
  THE PLAIN LAW of a failure among numbers.
-/
import Derived.Test.YtkobkeopajohiaaDoorV4
namespace Go.Proofs.YtkobkeopajohiaaDoor
open Go.RowKit Go.Lib
/-- a failure behind numbers is what the numbers come to -/
theorem nums_fail (n : Int) (hn : n ≠ 0) (ys : List V) : ∀ (xs : List V) (a : List Int), (∀ v ∈ xs, v.asNum.2 = 0) → nums (xs ++ V.fail n :: ys) a = ([], n)
  | [], a, _ => by simp [nums, V.asNum, hn]
  | x :: xs, a, h => by
    have hx := h x (by simp)
    rw [List.cons_append]
    unfold nums
    rw [if_pos hx]
    exact nums_fail n hn ys xs _ (fun v hv => h v (by simp [hv]))
end Go.Proofs.YtkobkeopajohiaaDoor
