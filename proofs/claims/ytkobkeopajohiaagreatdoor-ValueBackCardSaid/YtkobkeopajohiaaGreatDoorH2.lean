/-
  CONTRACTS for the law ValueFails: AsText, AsBool, Hold, Arith and Join at failures.
-/
import Derived.Test.YtkobkeopajohiaaGreatDoorG9
import Derived.Test.YtkobkeopajohiaaGreatDoorC5
namespace Go.Proofs.YtkobkeopajohiaaGreatDoor
open Go.RowKit Go.Lib

/-- a number within the bounds; a failure that is one of the seven -/
def V.good : V → Prop | .num n => -999999999999999999 ≤ n ∧ n ≤ 999999999999999999 | .fail n => 1 ≤ n ∧ n ≤ 7 | _ => True
theorem of_good (p : P) : p.of.good := by
  obtain ⟨k, n, s⟩ := p
  unfold P.of
  repeat' split
  all_goals first | exact trivial | assumption
/-- the first one of two failures -/
def V.first (v : V) (n : Int) : V := match v with | .fail m => .fail m | _ => .fail n
set_option maxRecDepth 100000 in
theorem asText_any (v : V) (w : World) (hP : GP w) (hg : v.good) :
    Calls Tryz.prog 28 #[v.val] w fun e w' => ∃ s, e = .returned (.tuple #[.string s, .int .i64 v.failed.1]) ∧ Below w.heap.size w w' := by
  rcases v with a | s | (_ | _) | a | _
  case num =>
    have HT := Lib.hid fun w hP => text_is a ⟨(Tab.text a).toArray⟩ w hP hg rfl
    clear hg
    generalize (⟨(Tab.text a).toArray⟩ : ByteArray) = t at *
    simp only [V.val, V.failed]
    go_enter Tryz.func28, Tryz.ntmps28
    go_wp2_with (first | (go_at_call 102; fail))
    go_at_call 102
    refine (HT.out _ hP).mono ?_
    rintro e w1 ⟨rfl, hb⟩
    go_wp2
    go_ret2
    exact ⟨_, rfl, hb⟩
  all_goals
    clear hg hP
    simp only [V.val, V.failed]
    go_enter Tryz.func28, Tryz.ntmps28
    go_wp2
    go_ret2
    exact ⟨_, rfl, by go_grown⟩
set_option maxRecDepth 100000 in
theorem asBool_fail (n : Int) (w : World) :
    Calls Tryz.prog 29 #[(V.fail n).val] w fun e w' => e = .returned (.tuple #[.bool false, .int .i64 n]) ∧ Below w.heap.size w w' := by
  simp only [V.val]
  go_enter Tryz.func29, Tryz.ntmps29
  go_wp2
  go_ret2
  exact ⟨rfl, by go_grown⟩
set_option maxRecDepth 100000 in
theorem hold_first (op n : Int) (v : V) (w : World) :
    Calls Tryz.prog 23 #[.int .i64 op, (V.fail n).val, v.val] w fun e w' => e = .returned (V.fail n).val ∧ Below w.heap.size w w' := by
  have HF := Lib.hid fun w => failed_any (.fail n) w
  simp only [V.val, V.failed] at HF
  rw [V.val_eq v]
  generalize v.ty = t
  generalize v.raw = x
  simp only [V.val]
  go_enter Tryz.func23, Tryz.ntmps23
  go_wp2_with (first | (go_at_call 91; refine (HF.out _).mono ?_; rintro e w' ⟨rfl, rfl⟩))
  go_ret
  exact ⟨rfl, by go_grown⟩
set_option maxRecDepth 100000 in
theorem hold_second (op n : Int) (v : V) (w : World) (h : v.failed = (0, false)) :
    Calls Tryz.prog 23 #[.int .i64 op, v.val, (V.fail n).val] w fun e w' => e = .returned (V.fail n).val ∧ Below w.heap.size w w' := by
  have HF := Lib.hid fun w => failed_any (.fail n) w
  have HV := Lib.hid fun w => failed_any v w
  rw [h] at HV
  simp only [V.val, V.failed] at HF
  rw [V.val_eq v] at HV ⊢
  clear h
  generalize v.ty = t at *
  generalize v.raw = x at *
  simp only [V.val]
  go_enter Tryz.func23, Tryz.ntmps23
  go_wp2_with (first | (go_at_call 91; fail))
  go_at_call 91
  refine (HV.out _).mono ?_
  rintro e w' ⟨rfl, rfl⟩
  go_wp2_with (first | (go_at_call 91; fail))
  go_at_call 91
  refine (HF.out _).mono ?_
  rintro e w' ⟨rfl, rfl⟩
  go_wp2
  go_ret
  exact ⟨rfl, by go_grown⟩
theorem hold_want (op n : Int) (v : V) (w : World) :
    Calls Tryz.prog 23 #[.int .i64 op, v.val, (V.fail n).val] w fun e w' => e = .returned (v.first n).val ∧ Below w.heap.size w w' := by
  cases v with
  | fail m => exact hold_first op m (.fail n) w
  | num a => exact hold_second op n _ w rfl
  | text a => exact hold_second op n _ w rfl
  | bool a => exact hold_second op n _ w rfl
  | blank => exact hold_second op n _ w rfl
set_option maxRecDepth 100000 in
theorem arith_fail (op n : Int) (v : V) (w : World) (hG : GM w) (hn : ¬ n = 0) :
    Calls Tryz.prog 25 #[.int .i64 op, (V.fail n).val, v.val] w fun e w' => e = .returned (V.fail n).val ∧ Below w.heap.size w w' := by
  have HA := Lib.hid fun w hM => asNumber_is (.fail n) 0 n w hM trivial rfl
  have hn0 : (n == 0) = false := by rw [beq_eq_false_iff_ne]; exact hn
  rw [V.val_eq v]
  generalize v.ty = t
  generalize v.raw = x
  simp only [V.val] at HA ⊢
  go_enter Tryz.func25, Tryz.ntmps25
  go_wp2_with (first | (go_at_call 27; fail))
  go_at_call 27
  refine (HA.out _ hG).mono ?_
  rintro e w1 ⟨rfl, hb⟩
  go_wp2
  go_ret
  exact ⟨rfl, hb⟩
set_option maxRecDepth 100000 in
theorem join_want (n : Int) (v : V) (w : World) (hP : GP w) (hg : v.good) (hn7 : 1 ≤ n ∧ n ≤ 7) :
    Calls Tryz.prog 19 #[v.val, (V.fail n).val] w fun e w' => e = .returned (v.first n).val ∧ Below w.heap.size w w' := by
  have hn : ¬ n = 0 := by omega
  have hn0 : (n == 0) = false := by rw [beq_eq_false_iff_ne]; exact hn
  have HV := Lib.hid fun w hP => asText_any v w hP hg
  by_cases hf : ∃ m, v = .fail m
  · obtain ⟨m, rfl⟩ := hf
    have hm0 : (m == 0) = false := by rw [beq_eq_false_iff_ne]; have := hg.1; omega
    have hm : ¬ m = 0 := by have := hg.1; omega
    clear hg
    simp only [V.val, V.failed, V.first] at HV ⊢
    go_enter Tryz.func19, Tryz.ntmps19
    go_wp2_with (first | (go_at_call 28; fail))
    go_at_call 28
    refine (HV.out _ hP).mono ?_
    rintro e w1 ⟨s, rfl, hb⟩
    go_wp2
    go_ret
    exact ⟨rfl, hb⟩
  · have e1 : v.failed.1 = 0 := by cases v <;> first | rfl | exact absurd ⟨_, rfl⟩ hf
    have e2 : v.first n = .fail n := by cases v <;> first | rfl | exact absurd ⟨_, rfl⟩ hf
    have HF := Lib.hid fun w hP => asText_any (.fail n) w hP hn7
    rw [e1] at HV
    rw [e2]
    clear e1 e2 hf hg
    rw [V.val_eq v] at HV ⊢
    generalize v.ty = t at *
    generalize v.raw = x at *
    simp only [V.val, V.failed] at HF ⊢
    go_enter Tryz.func19, Tryz.ntmps19
    go_wp2_with (first | (go_at_call 28; fail))
    go_at_call 28
    refine (HV.out _ hP).mono ?_
    rintro e w1 ⟨s, rfl, hb⟩
    have hP1 := hP.below hb
    go_wp2_with (first | (go_at_call 28; fail))
    go_at_call 28
    refine (HF.out _ hP1).mono ?_
    rintro e w2 ⟨s2, rfl, hb2⟩
    have hb12 := hb.trans (hb2.mono hb.size)
    go_wp2
    go_ret
    exact ⟨rfl, hb12⟩
end Go.Proofs.YtkobkeopajohiaaGreatDoor
