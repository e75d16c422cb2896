/-
  CONTRACTS of maths.Call: no such function; too few or too many arguments; a failure among the arguments.
-/
import Derived.Test.YtkobkeopajohiaaGreatDoorF1
import Derived.Test.YtkobkeopajohiaaGreatDoorVB
namespace Go.Proofs.YtkobkeopajohiaaGreatDoor
open Go.RowKit Go.Lib

def LimOk (r : Int × Int) : Prop := r = (0, 0) ∨ (1 ≤ r.1 ∧ r.1 ≤ r.2 ∧ r.2 ≤ 30)
theorem ite_ok (c : Prop) [Decidable c] (x y : Int × Int) (hx : LimOk x) (hy : LimOk y) : LimOk (if c then x else y) := by
  split <;> assumption
theorem lim_ok (s : ByteArray) : LimOk (lim s) := by
  unfold lim
  repeat' (apply ite_ok)
  all_goals first | exact .inl rfl | exact .inr (by decide)
theorem lim_cases (s : ByteArray) : lim s = (0, 0) ∨ ∃ a b, lim s = (a, b) ∧ 1 ≤ a ∧ a ≤ b ∧ b ≤ 30 := by
  rcases lim_ok s with h | h
  · exact .inl h
  · exact .inr ⟨_, _, rfl, h⟩
set_option maxRecDepth 100000 in
theorem call_unknown (s : ByteArray) (a : Option Addr) (n cap : Nat) (w : World) (h : lim s = (0, 0)) :
    Calls Tryz.prog 13 #[.string s, .slice a n cap] w fun e w' => e = .returned (V.fail 6).val ∧ Below w.heap.size w w' := by
  have HL := Lib.hid fun w => limits_any s w
  rw [h] at HL
  clear h
  go_enter Tryz.func13, Tryz.ntmps13
  go_wp2_with (first | (go_at_call 38; refine (HL.out _).mono ?_; rintro e w' ⟨rfl, rfl⟩))
  go_ret
  exact ⟨rfl, by go_grown⟩
set_option maxRecDepth 100000 in
theorem call_count (s : ByteArray) (a : Option Addr) (n cap : Nat) (lo hi : Int) (w : World) (h : lim s = (lo, hi)) (h0 : 0 < hi) (hc : (n : Int) < lo ∨ hi < n) :
    Calls Tryz.prog 13 #[.string s, .slice a n cap] w fun e w' => e = .returned (V.fail 3).val ∧ Below w.heap.size w w' := by
  have HL := Lib.hid fun w => limits_any s w
  rw [h] at HL
  clear h
  have hz : (hi == 0) = false := by rw [beq_eq_false_iff_ne]; omega
  rcases hc with hc | hc
  all_goals
    go_enter Tryz.func13, Tryz.ntmps13
    go_wp2_with (first | (go_at_call 38; refine (HL.out _).mono ?_; rintro e w' ⟨rfl, rfl⟩))
    all_goals go_ret
    all_goals exact ⟨rfl, by go_grown⟩
set_option maxRecDepth 100000 in
theorem call_fail (s : ByteArray) (vs : List V) (g cap : Nat) (lo hi f : Int) (w : World) (hG : GM w) (hA : ArgsAt w g vs) (hs : ∀ v ∈ vs, v.short 4294967) (h : lim s = (lo, hi)) (h0 : 0 < hi) (hi30 : hi ≤ 30) (hc : lo ≤ (vs.length : Int) ∧ (vs.length : Int) ≤ hi)
    (hnum : nums vs [] = ([], f)) (hf : f ≠ 0) :
    Calls Tryz.prog 13 #[.string s, .slice (some ⟨g, 0, none⟩) vs.length cap] w fun e w' => e = .returned (V.fail f).val ∧ Below w.heap.size w w' := by
  have HN := Lib.hid (numbers_any vs g cap w hG hA hs (by omega) _ hnum)
  have HL := Lib.hid fun w => limits_any s w
  rw [h] at HL
  clear h hA hs hnum hG
  have hz : (hi == 0) = false := by rw [beq_eq_false_iff_ne]; omega
  have hf0 : (f == 0) = false := by rw [beq_eq_false_iff_ne]; exact hf
  generalize vs.length = n at *
  obtain ⟨hc1, hc2⟩ := hc
  have hc3 : ¬ (n : Int) < lo := by omega
  have hc4 : ¬ hi < (n : Int) := by omega
  go_enter Tryz.func13, Tryz.ntmps13
  go_wp2_with (first
    | (go_at_call 38; refine (HL.out _).mono ?_; rintro e w' ⟨rfl, rfl⟩)
    | (go_at_call 40; fail))
  go_at_call 40
  refine HN.out.mono ?_
  rintro e w1 ⟨l, rfl, _, hb⟩
  clear HN
  go_wp2
  go_ret
  exact ⟨rfl, hb⟩
end Go.Proofs.YtkobkeopajohiaaGreatDoor
