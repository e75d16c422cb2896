/-
  CONTRACTS of the law's Cut and of deci.Int.
-/
import Derived.Test.YtkobkeopajohiaaGreatDoorR6
import Derived.Test.YtkobkeopajohiaaGreatDoorPl5

namespace Go.Proofs.YtkobkeopajohiaaGreatDoor
open Go.RowKit Go.Lib

theorem lawCut_any (s t : ByteArray) (n : Nat) (w : World) (h : t.data.toList = s.data.toList.take n) :
    Calls Tryz.prog 7 #[.string s, .int .i64 n] w fun e w' => e = .returned (.string t) ∧ w = w' := by
  by_cases hl : n < s.size
  · have hx : (s.extract 0 n).data.toList = t.data.toList := by rw [extract_data, h]; simp
    have HX := Lib.hid hx
    clear hx h
    go_enter Tryz.func7, Tryz.ntmps7
    go_wp2
    go_ret
    exact ⟨ret_str HX.out, rfl⟩
  · have hx : s.data.toList = t.data.toList := by rw [h, List.take_of_length_le (by rw [← size_eq]; omega)]
    have HX := Lib.hid hx
    clear hx h
    go_enter Tryz.func7, Tryz.ntmps7
    go_wp2
    go_ret
    exact ⟨ret_str HX.out, rfl⟩

theorem mul_ii (x y hi lo : Int) (w : World) (hx0 : 0 ≤ x) (hx : x < 18446744073709551616) (hy0 : 0 ≤ y) (hy : y < 18446744073709551616) (h0 : 0 ≤ hi) (h1 : 0 ≤ lo) (hlo : lo < 18446744073709551616) (h : x * y = hi * 18446744073709551616 + lo) :
    Calls Tryz.prog 122 #[.int .u64 x, .int .u64 y] w fun e w' => e = .returned (.tuple #[.int .u64 hi, .int .u64 lo]) ∧ w = w' := by
  obtain ⟨a, rfl⟩ := Int.eq_ofNat_of_zero_le hx0
  obtain ⟨b, rfl⟩ := Int.eq_ofNat_of_zero_le hy0
  exact mul_is a b hi lo w (by omega) (by omega) h0 h1 hlo (by rw [Int.natCast_mul]; exact h)
theorem made_big (m : Bool) (hi lo : Int) (w : World) (h : 0 < hi) :
    Calls Tryz.prog 116 #[.bool m, .int .u64 hi, .int .u64 lo] w fun e w' => e = .returned (.tuple #[.int .i64 0, .bool false]) ∧ w = w' := by
  go_enter Tryz.func116, Tryz.ntmps116
  go_wp2
  go_ret2
  exact ⟨rfl, rfl⟩
theorem made_over (m : Bool) (lo : Int) (w : World) (h : 999999999999999999 < lo) :
    Calls Tryz.prog 116 #[.bool m, .int .u64 0, .int .u64 lo] w fun e w' => e = .returned (.tuple #[.int .i64 0, .bool false]) ∧ w = w' := by
  go_enter Tryz.func116, Tryz.ntmps116
  go_wp2
  go_ret2
  exact ⟨rfl, rfl⟩

set_option maxRecDepth 100000 in
/-- a whole number: in range -/
theorem int_yes (n : Int) (w : World) (h : -99999999999999 ≤ n ∧ n ≤ 99999999999999) :
    Calls Tryz.prog 120 #[.int .i64 n] w fun e w' => e = .returned (.tuple #[.int .i64 (n * 10000), .bool true]) ∧ w = w' := by
  obtain ⟨h0, h1⟩ := h
  by_cases hn : n < 0
  · have hm := fun w => mul_ii (-n) 10000 0 (-n * 10000) w (by omega) (by omega) (by omega) (by omega) (by omega) (by omega) (by omega) (by omega)
    have hmd := fun w => made_int true (-n * 10000) w (by omega) (by omega)
    have em : Tab.made true (-n * 10000).toNat = (n * 10000, true) := by
      unfold Tab.made; rw [if_neg (by omega), if_pos rfl]; congr 1; omega
    rw [em] at hmd
    have HM := Lib.hid hm
    have HD := Lib.hid hmd
    have hw : IntKind.u64.wrap (-IntKind.u64.wrap n) = -n := by rw [IntKind.wrap_u64, IntKind.wrap_u64]; omega
    clear hm hmd em
    go_enter Tryz.func120, Tryz.ntmps120
    go_wp2_with (first
      | (go_at_call 122; refine (HM.out _).mono ?_; rintro e w' ⟨rfl, rfl⟩)
      | (go_at_call 116; refine (HD.out _).mono ?_; rintro e w' ⟨rfl, rfl⟩))
    go_ret2
    exact ⟨rfl, rfl⟩
  · have hn' : 0 ≤ n := by omega
    have hdec : decide (n < 0) = false := decide_eq_false hn
    have hm := fun w => mul_ii n 10000 0 (n * 10000) w (by omega) (by omega) (by omega) (by omega) (by omega) (by omega) (by omega) (by omega)
    have hmd := fun w => made_int false (n * 10000) w (by omega) (by omega)
    have em : Tab.made false (n * 10000).toNat = (n * 10000, true) := by
      unfold Tab.made; rw [if_neg (by omega)]; simp only [Bool.false_eq_true, if_false, Prod.mk.injEq, and_true]; omega
    rw [em] at hmd
    have HM := Lib.hid hm
    have HD := Lib.hid hmd
    clear hm hmd em
    go_enter Tryz.func120, Tryz.ntmps120
    go_wp2_with (first
      | (go_at_call 122; refine (HM.out _).mono ?_; rintro e w' ⟨rfl, rfl⟩)
      | (go_at_call 116; refine (HD.out _).mono ?_; rintro e w' ⟨rfl, rfl⟩))
    go_ret2
    exact ⟨rfl, rfl⟩
set_option maxRecDepth 100000 in
/-- a whole number: too great -/
theorem int_no (n : Int) (w : World) (hw : -9223372036854775808 ≤ n ∧ n ≤ 9223372036854775807) (h : n < -99999999999999 ∨ 99999999999999 < n) :
    Calls Tryz.prog 120 #[.int .i64 n] w fun e w' => e = .returned (.tuple #[.int .i64 0, .bool false]) ∧ w = w' := by
  obtain ⟨h0, h1⟩ := hw
  obtain ⟨u, hu⟩ : ∃ u : Nat, n.natAbs = u := ⟨_, rfl⟩
  obtain ⟨hi, lo, e0, q0, q1, q2⟩ : ∃ hi lo : Int, ((u * 10000 : Nat) : Int) = hi * 18446744073709551616 + lo ∧ 0 ≤ hi ∧ 0 ≤ lo ∧ lo < 18446744073709551616 :=
    ⟨((u * 10000 / 18446744073709551616 : Nat) : Int), ((u * 10000 % 18446744073709551616 : Nat) : Int), by omega, by omega, by omega, by omega⟩
  have HM := Lib.hid fun w => mul_ii u 10000 hi lo w (by omega) (by omega) (by omega) (by omega) q0 q1 q2 (by omega)
  have hwn : n < 0 → IntKind.u64.wrap (-IntKind.u64.wrap n) = (u : Int) := fun hn => by rw [IntKind.wrap_u64, IntKind.wrap_u64]; omega
  have hwp : 0 ≤ n → IntKind.u64.wrap n = (u : Int) := fun hn => by rw [IntKind.wrap_u64]; omega
  have hbig : hi = 0 → 999999999999999999 < lo := by omega
  have HB := Lib.hid hbig
  clear hbig e0 h
  by_cases hn : n < 0
  · have hw := hwn hn
    clear hwn hwp hu h0 h1
    by_cases hz : hi = 0
    · have hl := HB.out hz
      subst hz
      go_enter Tryz.func120, Tryz.ntmps120
      go_wp2_with (first
        | (go_at_call 122; refine (HM.out _).mono ?_; rintro e w' ⟨rfl, rfl⟩)
        | (go_at_call 116; refine (made_over _ _ _ hl).mono ?_; rintro e w' ⟨rfl, rfl⟩))
      go_ret2
      exact ⟨rfl, rfl⟩
    · have hl : 0 < hi := by omega
      clear hz
      go_enter Tryz.func120, Tryz.ntmps120
      go_wp2_with (first
        | (go_at_call 122; refine (HM.out _).mono ?_; rintro e w' ⟨rfl, rfl⟩)
        | (go_at_call 116; refine (made_big _ _ _ _ hl).mono ?_; rintro e w' ⟨rfl, rfl⟩))
      go_ret2
      exact ⟨rfl, rfl⟩
  · have hw := hwp (by omega)
    have hn0 : (n : Int) = u := by omega
    have hu2 : (u : Int) ≤ 9223372036854775807 := by omega
    clear hwn hwp hu hw hn
    subst hn0
    clear h0 h1
    by_cases hz : hi = 0
    · have hl := HB.out hz
      subst hz
      go_enter Tryz.func120, Tryz.ntmps120
      go_wp2_with (first
        | (go_at_call 122; refine (HM.out _).mono ?_; rintro e w' ⟨rfl, rfl⟩)
        | (go_at_call 116; refine (made_over _ _ _ hl).mono ?_; rintro e w' ⟨rfl, rfl⟩))
      go_ret2
      exact ⟨rfl, rfl⟩
    · have hl : 0 < hi := by omega
      clear hz
      go_enter Tryz.func120, Tryz.ntmps120
      go_wp2_with (first
        | (go_at_call 122; refine (HM.out _).mono ?_; rintro e w' ⟨rfl, rfl⟩)
        | (go_at_call 116; refine (made_big _ _ _ _ hl).mono ?_; rintro e w' ⟨rfl, rfl⟩))
      go_ret2
      exact ⟨rfl, rfl⟩
end Go.Proofs.YtkobkeopajohiaaGreatDoor
