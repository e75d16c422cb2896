/-
  FUNCTIONS OF NUMBERS: GCD of two.
-/
import Derived.Test.YtkobkeopajohiaaDoorV13
namespace Go.Proofs.YtkobkeopajohiaaDoor
open Go.RowKit Go.Lib

set_option maxHeartbeats 1600000 in
set_option maxRecDepth 100000 in
/-- the greatest common divisor of two whole numbers -/
theorem many_gcd (g cap : Nat) (m n : Nat) (w : World) (hm : 1 ≤ m ∧ m ≤ 1000000) (hn : 1 ≤ n ∧ n ≤ 1000000)
    (h0 : w.cell? ⟨g, 0, none⟩ = some (.int .i64 ((m : Int) * 10000))) (h1 : w.cell? ⟨g, 1, none⟩ = some (.int .i64 ((n : Int) * 10000))) :
    Calls Tryd.prog 85 #[.string ⟨#[71, 67, 68]⟩, .slice (some ⟨g, 0, none⟩) 2 cap] w fun e w' => e = .returned (V.num (((Nat.gcd m n : Nat) : Int) * 10000)).val ∧ Below w.heap.size w w' := by
  have HD := Lib.hid fun w => divisor_any m n w (by omega) (by omega)
  have hgm : Nat.gcd m n ≤ m := Nat.gcd_le_left _ (by omega)
  have HI3 := Lib.hid fun w => int_yes ((Nat.gcd m n : Nat) : Int) w (by omega)
  have HW1 := Lib.hid fun w => whole_any ((m : Int) * 10000) w (by omega) (by omega)
  have HW2 := Lib.hid fun w => whole_any ((n : Int) * 10000) w (by omega) (by omega)
  rw [Int.mul_tdiv_cancel _ (by decide)] at HW1 HW2
  generalize Nat.gcd m n = d at *
  go_enter Tryd.func85, Tryd.ntmps85
  go_wp2
  refine wp_loop_rounds 3 ?_
  rw [rounds_succ]
  go_wp2_with (first | (go_at_call 38; refine (HW1.out _).mono ?_; rintro e w' ⟨rfl, rfl⟩))
  rw [rounds_succ]
  go_wp2_with (first
    | (go_at_call 38; refine (HW2.out _).mono ?_; rintro e w' ⟨rfl, rfl⟩)
    | (go_at_call 111; fail))
  go_at_call 111
  refine (HD.out _).mono ?_
  rintro e w1 ⟨rfl, hb1⟩
  go_wp2
  rw [rounds_succ]
  go_wp2_with (first
    | (go_at_call 26; refine (HI3.out _).mono ?_; rintro e w' ⟨rfl, rfl⟩)
    | (go_at_call 75; refine (counted_yes _ _).mono ?_; rintro e w' ⟨rfl, rfl⟩))
  go_ret
  exact ⟨rfl, hb1⟩
set_option maxHeartbeats 1600000 in
set_option maxRecDepth 100000 in
theorem call_GCD (vs : List V) (g cap : Nat) (m n : Nat) (w : World) (hG : GM w) (hA : ArgsAt w g vs) (hs : ∀ v ∈ vs, v.short 4294967) (hlen : vs.length = 2) (hnum : nums vs [] = ([(m : Int) * 10000, (n : Int) * 10000], 0))
    (hm : 1 ≤ m ∧ m ≤ 1000000) (hn : 1 ≤ n ∧ n ≤ 1000000) :
    Calls Tryd.prog 48 #[.string ⟨#[71, 67, 68]⟩, .slice (some ⟨g, 0, none⟩) 2 cap] w fun e w' => e = .returned (V.num (((Nat.gcd m n : Nat) : Int) * 10000)).val ∧ Below w.heap.size w w' := by
  have HN := Lib.hid (hlen ▸ numbers_any vs g cap w hG hA hs (by omega) _ hnum)
  have HM := Lib.hid fun g cap w h0 h1 => many_gcd g cap m n w hm hn h0 h1
  clear hA hs hnum hlen hG hm hn
  generalize (((Nat.gcd m n : Nat) : Int) * 10000) = p at *
  generalize (m : Int) * 10000 = a at *
  generalize (n : Int) * 10000 = b at *
  go_enter Tryd.func48, Tryd.ntmps48
  go_wp2_with (first
    | (go_at_call 73; refine (limits_GCD _).mono ?_; rintro e w' ⟨rfl, rfl⟩)
    | (go_at_call 74; fail))
  go_at_call 74
  refine HN.out.mono ?_
  rintro e w1 ⟨l, rfl, ho, hb⟩
  have ho := ho (by trivial)
  obtain ⟨g1, cap1, rfl, _, _⟩ := ho.form (by simp)
  have hc0 : w1.cell? ⟨g1, 0, none⟩ = some (.int .i64 a) := ho.cellAt 0 (by simp)
  have HC1 : Hid (w1.cell? ⟨g1, 1, none⟩ = some (.int .i64 b)) := Lib.hid (ho.cellAt 1 (by simp))
  clear ho HN
  simp only [List.length_cons, List.length_nil, Nat.reduceAdd]
  go_wp2_with (first | (go_at_call 85; fail))
  go_at_call 85
  refine (HM.out g1 cap1 w1 hc0 HC1.out).mono ?_
  rintro e w2 ⟨rfl, hb2⟩
  have hb12 := hb.trans (hb2.mono hb.size)
  go_wp2
  go_ret
  exact ⟨rfl, hb12⟩

end Go.Proofs.YtkobkeopajohiaaDoor
