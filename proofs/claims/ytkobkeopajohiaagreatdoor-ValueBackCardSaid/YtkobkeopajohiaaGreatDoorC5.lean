/-
  CONTRACT of the law's helper 'awake' of layer 1: it answers true, in every world that lays the program's tables.
-/
import Derived.Test.YtkobkeopajohiaaGreatDoorC4
import Derived.Deep.QuietTactic
import Derived.BigQuiet
import Derived.Deep.RegionWith
namespace Go.Proofs.YtkobkeopajohiaaGreatDoor
open Go.RowKit Go.Lib

theorem div64_zero (lo y : Int) (w : World) (h0 : 0 ≤ lo) (h1 : lo < 18446744073709551616) (hy : 1 ≤ y) (hy1 : y < 18446744073709551616) :
    Calls Tryz.prog 152 #[.int .u64 0, .int .u64 lo, .int .u64 y] w fun e w' => e = .returned (.tuple #[.int .u64 (lo / y), .int .u64 (lo % y)]) ∧ ∃ n, w' = w.drewN n := by
  have hy0 : (y == 0) = false := by rw [beq_eq_false_iff_ne]; omega
  have hq0 := Int.ediv_nonneg h0 (show 0 ≤ y by omega)
  have hq1 := Int.ediv_le_self y h0
  have hr0 := Int.emod_nonneg lo (show y ≠ 0 by omega)
  have hr1 := Int.emod_lt_of_pos lo (show 0 < y by omega)
  go_enter Tryz.func152, Tryz.ntmps152
  go_wp2
  go_quiet (fail)
  go_wp2
  go_ret2
  exact ⟨rfl, _, rfl⟩

set_option maxRecDepth 100000 in
theorem quot_up (lo y : Int) (w : World) (h0 : 0 ≤ lo) (h1 : lo < 18446744073709551616) (hy : 1 ≤ y) (hy1 : y < 18446744073709551616) (hq : lo / y ≤ 999999999999999998) (hr : y - lo % y ≤ lo % y) :
    Calls Tryz.prog 142 #[.int .u64 0, .int .u64 lo, .int .u64 y] w fun e w' => e = .returned (.tuple #[.int .u64 (lo / y + 1), .bool true]) ∧ ∃ n, w' = w.drewN n := by
  have b0 := Int.ediv_nonneg h0 (show 0 ≤ y by omega)
  have hr0 := Int.emod_nonneg lo (show y ≠ 0 by omega)
  have hr1 := Int.emod_lt_of_pos lo (show 0 < y by omega)
  have HD := Lib.hid fun w => div64_zero lo y w h0 h1 hy hy1
  clear h0 h1
  generalize lo / y = q at *
  generalize lo % y = r at *
  go_enter Tryz.func142, Tryz.ntmps142
  go_wp2_with (first
    | (go_at_call 152; refine (HD.out _).mono ?_; rintro e w' ⟨rfl, n, rfl⟩))
  go_ret2
  exact ⟨ret_ib rfl (decide_eq_true (by omega)), _, rfl⟩

set_option maxRecDepth 100000 in
theorem div_two_three (w : World) :
    Calls Tryz.prog 96 #[.int .i64 20000, .int .i64 30000] w fun e w' => e = .returned (.tuple #[.int .i64 6667, .bool true]) ∧ ∃ n, w' = w.drewN n := by
  have hq := fun w => quot_up 200000000 30000 w (by decide) (by decide) (by decide) (by decide) (by decide) (by decide)
  go_enter Tryz.func96, Tryz.ntmps96
  go_wp2_with (first
    | (go_at_call 115; refine (size_any _ _ (by omega) (by omega)).mono ?_; rintro e w' ⟨rfl, rfl⟩)
    | (go_at_call 122; refine (mul_is 20000 10000 0 200000000 _ (by omega) (by omega) (by omega) (by omega) (by omega) (by decide)).mono ?_; rintro e w' ⟨rfl, rfl⟩)
    | (go_at_call 142; refine (hq _).mono ?_; rintro e w' ⟨rfl, n, rfl⟩)
    | (go_at_call 116; refine (made_int _ _ _ (by omega) (by omega)).mono ?_; rintro e w' ⟨rfl, rfl⟩))
  go_ret2
  exact ⟨ret_ib (by decide) (by decide), _, rfl⟩

theorem parse_is (s : ByteArray) (n : Int) (ok : Bool) (w : World) (hG : GM w) (hs : s.size < 4294967281) (h : Tab.parse s.data.toList = (n, ok)) :
    Calls Tryz.prog 100 #[.string s] w fun e w' => e = .returned (.tuple #[.int .i64 n, .bool ok]) ∧ Below w.heap.size w w' := by
  have := parse_any s w hG hs
  rw [h] at this
  exact this
theorem round_is (a p n : Int) (ok : Bool) (w : World) (hG : GT w) (ha : -999999999999999999 ≤ a ∧ a ≤ 999999999999999999) (h : Tab.roundS a p = (n, ok)) :
    Calls Tryz.prog 47 #[.int .i64 a, .int .i64 p] w fun e w' => e = .returned (.tuple #[.int .i64 n, .bool ok]) ∧ w = w' := by
  have := round_any a p w hG ha
  rw [h] at this
  exact this
theorem text_is (a : Int) (t : ByteArray) (w : World) (hG : GP w) (ha : -999999999999999999 ≤ a ∧ a ≤ 999999999999999999) (h : t.data.toList = Tab.text a) :
    Calls Tryz.prog 102 #[.int .i64 a] w fun e w' => e = .returned (.string t) ∧ Below w.heap.size w w' := by
  have := text_any a w hG ha
  rw [← h] at this
  exact this
theorem good_yes (a : Int) (w : World) (h : -999999999999999999 ≤ a ∧ a ≤ 999999999999999999) : Calls Tryz.prog 124 #[.int .i64 a] w fun e w' => e = .returned (.bool true) ∧ w = w' := by
  have := good_any a w
  rw [decide_eq_true h] at this
  exact this
theorem good_no (a : Int) (w : World) (h : ¬ (-999999999999999999 ≤ a ∧ a ≤ 999999999999999999)) : Calls Tryz.prog 124 #[.int .i64 a] w fun e w' => e = .returned (.bool false) ∧ w = w' := by
  have := good_any a w
  rw [decide_eq_false h] at this
  exact this
end Go.Proofs.YtkobkeopajohiaaGreatDoor
