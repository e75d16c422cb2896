/-
  PLAIN DATA AS VALUES: the kinds.
-/
import Derived.Test.YtkobkeopajohiaaGreatDoorU1
import Derived.Test.YtkobkeopajohiaaGreatDoorQ1
import Derived.Deep.QuietTactic
import Derived.BigQuiet
import Derived.Deep.RegionWith
namespace Go.Proofs.YtkobkeopajohiaaGreatDoor
open Go.RowKit Go.Lib

set_option maxRecDepth 100000 in
theorem of_num_no (n : Int) (w : World) (s : ByteArray) (h : ¬ (-999999999999999999 ≤ n ∧ n ≤ 999999999999999999)) :
    Calls Tryz.prog 60 #[.agg #[.int .i64 1, .int .i64 n, .string s]] w fun e w' => e = .returned V.blank.val ∧ Below w.heap.size w w' := by
  have HG := Lib.hid fun w => good_no n w h
  clear h
  go_enter Tryz.func60, Tryz.ntmps60
  go_wp2_with (first | (go_at_call 124; refine (HG.out _).mono ?_; rintro e w' ⟨rfl, rfl⟩))
  go_ret
  exact ⟨rfl, by go_grown⟩
set_option maxRecDepth 100000 in
theorem of_bool (n : Int) (b : Bool) (w : World) (s : ByteArray) (h : (n == 1) = b) :
    Calls Tryz.prog 60 #[.agg #[.int .i64 3, .int .i64 n, .string s]] w fun e w' => e = .returned (V.bool b).val ∧ Below w.heap.size w w' := by
  have HB := Lib.hid h
  clear h
  go_enter Tryz.func60, Tryz.ntmps60
  go_wp2
  go_ret
  exact ⟨by rw [← HB.out]; rfl, by go_grown⟩
set_option maxRecDepth 100000 in
theorem of_other (k n : Int) (w : World) (s : ByteArray) (h1 : (k == 1) = false) (h2 : (k == 2) = false) (h3 : (k == 3) = false) (h4 : (k == 4) = false) :
    Calls Tryz.prog 60 #[.agg #[.int .i64 k, .int .i64 n, .string s]] w fun e w' => e = .returned V.blank.val ∧ Below w.heap.size w w' := by
  go_enter Tryz.func60, Tryz.ntmps60
  go_wp2
  all_goals go_ret
  all_goals exact ⟨rfl, by go_grown⟩
set_option maxRecDepth 100000 in
theorem of_text_no (m n : Int) (ok : Bool) (s : ByteArray) (w : World) (hs : Calls Tryz.prog 125 #[.string s] (w.alloc (.cells #[.int .i64 2, .int .i64 n, .string s] 41)) fun e w' => e = .returned (.tuple #[.int .i64 m, .bool ok]) ∧ Below (w.alloc (.cells #[.int .i64 2, .int .i64 n, .string s] 41)).heap.size (w.alloc (.cells #[.int .i64 2, .int .i64 n, .string s] 41)) w') (hz : ok = false ∨ 2000 < s.size) :
    Calls Tryz.prog 60 #[.agg #[.int .i64 2, .int .i64 n, .string s]] w fun e w' => e = .returned V.blank.val ∧ Below w.heap.size w w' := by
  have HS := Lib.hid hs
  clear hs
  have key : ok = false ∨ (ok = true ∧ 2000 < s.size) := by
    cases ok
    · exact .inl rfl
    · exact .inr ⟨rfl, by simpa using hz⟩
  clear hz
  rcases key with rfl | ⟨rfl, hz⟩
  all_goals
    go_enter Tryz.func60, Tryz.ntmps60
    go_wp2_with (first | (go_at_call 125; fail))
    go_at_call 125
    refine HS.out.mono ?_
    rintro e w1 ⟨rfl, hb⟩
    have hc0 : w1.cell? ⟨w.heap.size, 2, none⟩ = some (.string s) := (hb.cell (by simp)).trans (by rw [World.cell?_alloc_at _ _ _ _ rfl]; rfl)
    have hb' : Below w.heap.size w w1 := ((Below.refl _ _).alloc (Nat.le_refl _) _).trans (hb.mono (by simp))
    clear hb
    go_wp2
    go_ret
    exact ⟨rfl, hb'⟩
set_option maxHeartbeats 1600000 in
set_option maxRecDepth 100000 in
theorem of_fail_low (n : Int) (w : World) (s : ByteArray) (h : n < 1) :
    Calls Tryz.prog 60 #[.agg #[.int .i64 4, .int .i64 n, .string s]] w fun e w' => e = .returned V.blank.val ∧ Below w.heap.size w w' := by
  have hd : decide (1 ≤ n) = false := decide_eq_false (by omega)
  have hc1 : (w.alloc (.cells #[.int .i64 4, .int .i64 n, .string s] 41)).cell? ⟨w.heap.size, 1, none⟩ = some (.int .i64 n) := by rw [World.cell?_alloc_at _ _ _ _ rfl]; rfl
  go_enter Tryz.func60, Tryz.ntmps60
  go_wp2
  go_quiet (fail)
  go_wp2
  all_goals go_ret
  all_goals exact ⟨rfl, below_drewN ((Below.refl _ _).alloc (Nat.le_refl _) _) _⟩
end Go.Proofs.YtkobkeopajohiaaGreatDoor
