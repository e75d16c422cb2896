/-
  PLAIN DATA AS VALUES: a number, a text.
-/
import Derived.Test.YtkobkeopajohiaaGreatDoorV2
import Derived.LoopTactic
namespace Go.Proofs.YtkobkeopajohiaaGreatDoor
open Go.RowKit Go.Lib

set_option maxRecDepth 1000000 in
theorem signs_six (w : World) :
    Calls Tryz.prog 125 #[.string ⟨#[54]⟩] w fun e w' => e = .returned (.tuple #[.int .i64 1, .bool true]) ∧ Below w.heap.size w w' := by
  have hx : ∀ ty, (Instr.next (.pointer (some ⟨w.heap.size, 0, none⟩)) true ty).run Tryz.prog (w.iter ⟨#[54]⟩ 0) = .ok (.tuple #[.bool true, .int .i64 0, .int .i32 54]) (w.iter ⟨#[54]⟩ 1) := fun ty => run_next_ascii w ⟨#[54]⟩ 0 ty (by decide) (by decide)
  have hy : ∀ ty, (Instr.next (.pointer (some ⟨w.heap.size, 0, none⟩)) true ty).run Tryz.prog (w.iter ⟨#[54]⟩ 1) = .ok (.tuple #[.bool false]) (w.iter ⟨#[54]⟩ 1) := fun ty => run_next_end w ⟨#[54]⟩ 1 ty (by decide)
  go_enter Tryz.func125, Tryz.ntmps125
  go_wp2
  refine wp_loop_rounds 3 ?_
  rw [rounds_succ]
  go_wp2
  rw [rounds_succ]
  go_wp2
  go_ret2
  exact ⟨rfl, (Below.refl _ _).alloc (Nat.le_refl _) _⟩
set_option maxRecDepth 100000 in
theorem of_num (n : Int) (w : World) (s : ByteArray) (h : -999999999999999999 ≤ n ∧ n ≤ 999999999999999999) :
    Calls Tryz.prog 60 #[.agg #[.int .i64 1, .int .i64 n, .string s]] w fun e w' => e = .returned (V.num n).val ∧ Below w.heap.size w w' := by
  have HG := Lib.hid fun w => good_yes n w h
  clear h
  go_enter Tryz.func60, Tryz.ntmps60
  go_wp2_with (first | (go_at_call 124; refine (HG.out _).mono ?_; rintro e w' ⟨rfl, rfl⟩))
  go_ret
  exact ⟨rfl, by go_grown⟩
set_option maxRecDepth 100000 in
theorem of_text (m n : Int) (s : ByteArray) (w : World) (hs : ∀ w, Calls Tryz.prog 125 #[.string s] w fun e w' => e = .returned (.tuple #[.int .i64 m, .bool true]) ∧ Below w.heap.size w w') (hz : s.size ≤ 2000) :
    Calls Tryz.prog 60 #[.agg #[.int .i64 2, .int .i64 n, .string s]] w fun e w' => e = .returned (V.text s).val ∧ Below w.heap.size w w' := by
  have HS := Lib.hid hs
  clear hs
  go_enter Tryz.func60, Tryz.ntmps60
  go_wp2_with (first | (go_at_call 125; fail))
  go_at_call 125
  refine (HS.out _).mono ?_
  rintro e w1 ⟨rfl, hb⟩
  have hc0 : w1.cell? ⟨w.heap.size, 2, none⟩ = some (.string s) := (hb.cell (by simp)).trans (by rw [World.cell?_alloc_at _ _ _ _ rfl]; rfl)
  have hb' : Below w.heap.size w w1 := ((Below.refl _ _).alloc (Nat.le_refl _) _).trans (hb.mono (by simp))
  clear hb
  go_wp2
  go_ret
  exact ⟨rfl, hb'⟩
end Go.Proofs.YtkobkeopajohiaaGreatDoor
