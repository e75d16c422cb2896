/-
  PLAIN DATA AS VALUES: failures.
-/
import Derived.Test.YtkobkeopajohiaaGreatDoorU3
import Derived.Deep.RegionHeld3
namespace Go.Proofs.YtkobkeopajohiaaGreatDoor
open Go.RowKit Go.Lib

set_option maxHeartbeats 1600000 in
set_option maxRecDepth 100000 in
theorem of_fail (n : Int) (w : World) (s : ByteArray) (h : 1 ≤ n) (h7 : n ≤ 7) :
    Calls Tryz.prog 60 #[.agg #[.int .i64 4, .int .i64 n, .string s]] w fun e w' => e = .returned (V.fail n).val ∧ Below w.heap.size w w' := by
  have hd : decide (1 ≤ n) = true := decide_eq_true (by omega)
  have HE := Lib.hid fun w => errors_any w
  have hc1 : (w.alloc (.cells #[.int .i64 4, .int .i64 n, .string s] 41)).cell? ⟨w.heap.size, 1, none⟩ = some (.int .i64 n) := by rw [World.cell?_alloc_at _ _ _ _ rfl]; rfl
  go_enter Tryz.func60, Tryz.ntmps60
  go_wp2
  go_region_held3 (fun w' => w'.cell? ⟨w.heap.size, 1, none⟩ = some (.int .i64 n)) (first | go_keep | (refine (‹Below _ _ _›.cell ?_).trans ?_ <;> first | assumption | (simp; done) | (simp; omega))) (first | (go_at_call 111; refine (HE.out _).mono ?_; rintro e w2 ⟨g, rfl, hb⟩))
  go_wp2
  all_goals go_ret
  all_goals exact ⟨rfl, (((Below.refl _ _).alloc (Nat.le_refl _) _).drew).trans (Below.mono ‹_› (by simp))⟩
set_option maxHeartbeats 1600000 in
set_option maxRecDepth 100000 in
theorem of_fail_high (n : Int) (w : World) (s : ByteArray) (h7 : 7 < n) :
    Calls Tryz.prog 60 #[.agg #[.int .i64 4, .int .i64 n, .string s]] w fun e w' => e = .returned V.blank.val ∧ Below w.heap.size w w' := by
  have hd : decide (1 ≤ n) = true := decide_eq_true (by omega)
  have HE := Lib.hid fun w => errors_any w
  have hc1 : (w.alloc (.cells #[.int .i64 4, .int .i64 n, .string s] 41)).cell? ⟨w.heap.size, 1, none⟩ = some (.int .i64 n) := by rw [World.cell?_alloc_at _ _ _ _ rfl]; rfl
  go_enter Tryz.func60, Tryz.ntmps60
  go_wp2
  go_region_held3 (fun w' => w'.cell? ⟨w.heap.size, 1, none⟩ = some (.int .i64 n)) (first | go_keep | (refine (‹Below _ _ _›.cell ?_).trans ?_ <;> first | assumption | (simp; done) | (simp; omega))) (first | (go_at_call 111; refine (HE.out _).mono ?_; rintro e w2 ⟨g, rfl, hb⟩))
  go_wp2
  all_goals go_ret
  all_goals exact ⟨rfl, (((Below.refl _ _).alloc (Nat.le_refl _) _).drew).trans (Below.mono ‹_› (by simp))⟩
end Go.Proofs.YtkobkeopajohiaaGreatDoor
