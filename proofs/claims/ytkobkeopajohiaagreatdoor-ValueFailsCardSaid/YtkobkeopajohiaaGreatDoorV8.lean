/-
  FUNCTIONS OF NUMBERS: the greatest common divisor, the least common multiple.
-/
import Derived.Test.YtkobkeopajohiaaGreatDoorV7
import Derived.BigQuiet
import Derived.Deep.QuietTactic
namespace Go.Proofs.YtkobkeopajohiaaGreatDoor
open Go.RowKit Go.Lib

set_option maxRecDepth 100000 in
theorem divisor_any (a b : Nat) (w : World) (ha : a ≤ 999999999999999999) (hb : b ≤ 999999999999999999) :
    Calls Tryz.prog 123 #[.int .i64 a, .int .i64 b] w fun e w' => e = .returned (.int .i64 (Nat.gcd a b : Nat)) ∧ Below w.heap.size w w' := by
  generalize hR : Nat.gcd a b = R
  have HR := Lib.hid hR
  clear hR
  go_enter Tryz.func123, Tryz.ntmps123
  go_wp2
  go_loopw [0, 1] (fun va vb wr => ∃ x y : Nat, va = .int .i64 x ∧ vb = .int .i64 y ∧ x ≤ 999999999999999999 ∧ y ≤ 999999999999999999 ∧ Hid (Nat.gcd x y = R) ∧ Hid (Below w.heap.size w wr)) (fun _ vb _ => (RowKit.intOf vb).toNat)
  case atStart => exact ⟨a, b, rfl, rfl, ha, hb, HR, Lib.hid (Below.refl _ _)⟩
  case round =>
    obtain ⟨x, y, rfl, rfl, hx, hy, hg, hw⟩ := hrel
    by_cases h0 : 0 < y
    · have hy0 : ((y : Int) == 0) = false := by rw [beq_eq_false_iff_ne]; omega
      have hg2 : Hid (Nat.gcd y (x % y) = R) := Lib.hid (by rw [← hg.out, Nat.gcd_comm x y, Nat.gcd_rec y x, Nat.gcd_comm])
      have hlt : x % y < y := Nat.mod_lt _ h0
      have hm : Hid (((x % y : Nat) : Int) = (x : Int) % (y : Int)) := Lib.hid rfl
      go_wp2
      go_quiet (fail)
      go_wp2
      go_roundw
      case rel => exact ⟨y, x % y, rfl, by rw [hm.out], hy, by omega, hg2, Lib.hid (below_drewN hw.out _)⟩
      case measure => simp [RowKit.intOf]; omega
    · have hy0 : y = 0 := by omega
      have hxR : Hid (x = R) := Lib.hid (by rw [← hg.out, hy0, Nat.gcd_zero_right])
      go_wp2
      go_ret
      exact ⟨ret_int (by rw [hxR.out]), hw.out⟩

/-- the greatest common divisor and the least common multiple of two numbers, their places cut off -/
def lcmV (m n : Nat) : V := if m = 0 ∨ n = 0 then .num 0 else .num ((m / Nat.gcd m n * n : Nat) * 10000)
set_option maxRecDepth 100000 in
/-- the least common multiple of two whole numbers, which is small -/
theorem many_lcm (g cap : Nat) (m n : Nat) (w : World) (hm : 1 ≤ m ∧ m ≤ 1000000) (hn : 1 ≤ n ∧ n ≤ 1000000) (q : Nat) (hq : m / Nat.gcd m n = q)
    (hmul : ∀ w, Calls Tryz.prog 95 #[.int .i64 ((q : Int) * 10000), .int .i64 ((n : Int) * 10000)] w fun e w' => e = .returned (.tuple #[.int .i64 (((q * n : Nat) : Int) * 10000), .bool true]) ∧ Below w.heap.size w w')
    (h0 : w.cell? ⟨g, 0, none⟩ = some (.int .i64 ((m : Int) * 10000))) (h1 : w.cell? ⟨g, 1, none⟩ = some (.int .i64 ((n : Int) * 10000))) :
    Calls Tryz.prog 58 #[.string ⟨#[76, 67, 77]⟩, .slice (some ⟨g, 0, none⟩) 2 cap] w fun e w' => e = .returned (V.num (((q * n : Nat) : Int) * 10000)).val ∧ Below w.heap.size w w' := by
  have HM := Lib.hid hmul
  have HD := Lib.hid fun w => divisor_any m n w (by omega) (by omega)
  have hgm : Nat.gcd m n ≤ m := Nat.gcd_le_left _ (by omega)
  have hg1 : 1 ≤ Nat.gcd m n := Nat.gcd_pos_of_pos_left _ (by omega)
  have hqm : q ≤ m := by rw [← hq]; exact Nat.div_le_self _ _
  have hqn : q * n ≤ 1000000000000 := Nat.le_trans (Nat.mul_le_mul (Nat.le_trans hqm hm.2) hn.2) (by decide)
  have HQ : Hid ((m : Int) / ((Nat.gcd m n : Nat) : Int) = (q : Int)) := Lib.hid (by rw [← hq]; rfl)
  have hqb : 0 ≤ (m : Int) / ((Nat.gcd m n : Nat) : Int) ∧ (m : Int) / ((Nat.gcd m n : Nat) : Int) ≤ 1000000 := by rw [HQ.out]; omega
  have HI1 := Lib.hid fun w => int_yes (q : Int) w (by omega)
  have HI2 := Lib.hid fun w => int_yes (n : Int) w (by omega)
  have HI3 := Lib.hid fun w => int_yes ((q * n : Nat) : Int) w (by omega)
  have HW1 := Lib.hid fun w => whole_any ((m : Int) * 10000) w (by omega) (by omega)
  have HW2 := Lib.hid fun w => whole_any ((n : Int) * 10000) w (by omega) (by omega)
  have HW3 := Lib.hid fun w => whole_any (((q * n : Nat) : Int) * 10000) w (by omega) (by omega)
  rw [Int.mul_tdiv_cancel _ (by decide)] at HW1 HW2 HW3
  clear hmul hq
  obtain ⟨hqb0, hqb1⟩ := hqb
  generalize Nat.gcd m n = d at *
  generalize q * n = p at *
  go_enter Tryz.func58, Tryz.ntmps58
  go_wp2
  refine wp_loop_rounds 3 ?_
  rw [rounds_succ]
  go_wp2_with (first | (go_at_call 114; refine (HW1.out _).mono ?_; rintro e w' ⟨rfl, rfl⟩))
  rw [rounds_succ]
  have hm0 : ((m : Int) == 0) = false := by rw [beq_eq_false_iff_ne]; omega
  have hn0 : ((n : Int) == 0) = false := by rw [beq_eq_false_iff_ne]; omega
  have hd0 : ((d : Int) == 0) = false := by rw [beq_eq_false_iff_ne]; omega
  go_wp2_with (first
    | (go_at_call 114; refine (HW2.out _).mono ?_; rintro e w' ⟨rfl, rfl⟩)
    | (go_at_call 123; fail))
  go_at_call 123
  refine (HD.out _).mono ?_
  rintro e w1 ⟨rfl, hb1⟩
  go_wp2_with (first
    | (go_at_call 120; fail))
  rw [HQ.out]
  go_wp2_with (first
    | (go_at_call_of 120 (Value.int IntKind.i64 (q : Int)); refine (HI1.out _).mono ?_; rintro e w' ⟨rfl, rfl⟩)
    | (go_at_call_of 120 (Value.int IntKind.i64 (n : Int)); refine (HI2.out _).mono ?_; rintro e w' ⟨rfl, rfl⟩)
    | (go_at_call 95; fail))
  go_at_call 95
  refine (HM.out _).mono ?_
  rintro e w2 ⟨rfl, hb2⟩
  have hb12 := hb1.trans (hb2.mono hb1.size)
  go_wp2_with (first
    | (go_at_call 114; refine (HW3.out _).mono ?_; rintro e w' ⟨rfl, rfl⟩))
  rw [rounds_succ]
  go_wp2_with (first
    | (go_at_call 120; refine (HI3.out _).mono ?_; rintro e w' ⟨rfl, rfl⟩)
    | (go_at_call 43; refine (counted_yes _ _).mono ?_; rintro e w' ⟨rfl, rfl⟩))
  go_ret
  exact ⟨rfl, hb12⟩
end Go.Proofs.YtkobkeopajohiaaGreatDoor
