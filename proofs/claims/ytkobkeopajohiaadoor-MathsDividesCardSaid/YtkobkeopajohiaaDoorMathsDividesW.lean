/-
  THE WALK of the law MathsDivides: divisors and multiples.
-/
import Derived.Test.YtkobkeopajohiaaDoorM3
import Derived.Test.YtkobkeopajohiaaDoorM4
import Derived.Test.YtkobkeopajohiaaDoorV15
namespace Go.Proofs.YtkobkeopajohiaaDoor
open Go.RowKit Go.Lib

theorem isInt_yes (n : Int) (w : World) : Calls Tryd.prog 39 #[.int .i64 (n * 10000)] w fun e w' => e = .returned (.bool true) ∧ w = w' := by
  have := isInt_any (n * 10000) w
  rw [Int.mul_tmod_left] at this
  exact this
theorem whole_yes (n : Int) (w : World) (h : -99999999999999 ≤ n ∧ n ≤ 99999999999999) : Calls Tryd.prog 38 #[.int .i64 (n * 10000)] w fun e w' => e = .returned (.int .i64 n) ∧ w = w' := by
  have := whole_any (n * 10000) w (by omega) (by omega)
  rw [Int.mul_tdiv_cancel _ (by decide)] at this
  exact this

set_option maxHeartbeats 3200000 in
set_option maxRecDepth 100000 in
theorem mathsDivides_walk (m n : Int) (w : World) (hM : GM w) (hT : GT w) :
    Calls Tryd.prog 10 #[.int .i64 m, .int .i64 n] w fun e w' => e = .returned (.bool true) ∧ Below w.heap.size w w' := by
  have HAW := Lib.hid fun w hM hT => awake16 w hM hT
  by_cases hm : m < 1
  · go_enter Tryd.func10, Tryd.ntmps10
    go_wp2_with (first
      | (go_at_call 40; refine (HAW.out _ hM hT).mono ?_; rintro e w' ⟨rfl, hb⟩))
    all_goals go_ret
    all_goals exact ⟨rfl, hb⟩
  · by_cases hn : n < 1
    · go_enter Tryd.func10, Tryd.ntmps10
      go_wp2_with (first
        | (go_at_call 40; refine (HAW.out _ hM hT).mono ?_; rintro e w' ⟨rfl, hb⟩))
      all_goals go_ret
      all_goals exact ⟨rfl, hb⟩
    · by_cases hm2 : 1000000 < m
      · go_enter Tryd.func10, Tryd.ntmps10
        go_wp2_with (first
          | (go_at_call 40; refine (HAW.out _ hM hT).mono ?_; rintro e w' ⟨rfl, hb⟩))
        all_goals go_ret
        all_goals exact ⟨rfl, hb⟩
      · by_cases hn2 : 1000000 < n
        · go_enter Tryd.func10, Tryd.ntmps10
          go_wp2_with (first
            | (go_at_call 40; refine (HAW.out _ hM hT).mono ?_; rintro e w' ⟨rfl, hb⟩))
          all_goals go_ret
          all_goals exact ⟨rfl, hb⟩
        · obtain ⟨a, rfl⟩ := Int.eq_ofNat_of_zero_le (show 0 ≤ m by omega)
          obtain ⟨b, rfl⟩ := Int.eq_ofNat_of_zero_le (show 0 ≤ n by omega)
          have ha : 1 ≤ a ∧ a ≤ 1000000 := by omega
          have hb : 1 ≤ b ∧ b ≤ 1000000 := by omega
          obtain ⟨q, hq⟩ : ∃ q, a / Nat.gcd a b = q := ⟨_, rfl⟩
          have hg1 : 1 ≤ Nat.gcd a b := Nat.gcd_pos_of_pos_left _ (by omega)
          have hga : Nat.gcd a b ≤ a := Nat.gcd_le_left _ (by omega)
          have hqa : q ≤ a := by rw [← hq]; exact Nat.div_le_self _ _
          have hd1 : Nat.gcd a b ∣ a := Nat.gcd_dvd_left _ _
          have hd2 : Nat.gcd a b ∣ b := Nat.gcd_dvd_right _ _
          have hqg : q * Nat.gcd a b = a := by rw [← hq]; exact Nat.div_mul_cancel hd1
          have hq1 : 1 ≤ q := by
            rcases Nat.eq_zero_or_pos q with h | h
            · rw [h, Nat.zero_mul] at hqg; omega
            · exact h
          have hL1 : 1 ≤ q * b := Nat.mul_le_mul hq1 hb.1
          have hL2 : q * b ≤ 1000000 * 1000000 := Nat.mul_le_mul (by omega) hb.2
          have f1 : a % Nat.gcd a b = 0 := Nat.mod_eq_zero_of_dvd hd1
          have f2 : b % Nat.gcd a b = 0 := Nat.mod_eq_zero_of_dvd hd2
          have f3 : q * b % a = 0 := by
            obtain ⟨c, hc⟩ := hd2
            refine Nat.mod_eq_zero_of_dvd ⟨c, ?_⟩
            calc q * b = q * (Nat.gcd a b * c) := by rw [← hc]
              _ = q * Nat.gcd a b * c := (Nat.mul_assoc ..).symm
              _ = a * c := by rw [hqg]
          have f4 : q * b % b = 0 := Nat.mul_mod_left _ _
          have H1 := Lib.hid (oneIs_of _ ((a : Int) * 10000) ((b : Int) * 10000) _ _ _ w (fun g cap w' hb' hA => call_GCD _ g cap a b w' (hM.below hb') hA (short_nums _ _) rfl (nums_two _ _) ha hb) rfl)
          have H2 := Lib.hid (oneIs_of _ ((a : Int) * 10000) ((b : Int) * 10000) _ _ _ w (fun g cap w' hb' hA => call_LCM _ g cap a b q w' (hM.below hb') hA (short_nums _ _) rfl (nums_two _ _) ha hb hq (fun w => mul_whole q b w (by omega) (by omega))) rfl)
          have HI1 := Lib.hid fun w => isInt_yes ((Nat.gcd a b : Nat) : Int) w
          have HI2 := Lib.hid fun w => isInt_yes ((q * b : Nat) : Int) w
          have HW1 := Lib.hid fun w => whole_yes ((Nat.gcd a b : Nat) : Int) w (by omega)
          have HW2 := Lib.hid fun w => whole_yes ((q * b : Nat) : Int) w (by omega)
          have e5 : (a : Int) / ((Nat.gcd a b : Nat) : Int) = (q : Int) := by rw [← hq]; rfl
          have e6 : (q : Int) * (b : Int) = ((q * b : Nat) : Int) := (Int.natCast_mul ..).symm
          clear hd1 hd2 hq hqg
          generalize Nat.gcd a b = g at *
          generalize q * b = L at *
          have e1 : (a : Int) % (g : Int) = 0 := by show ((a % g : Nat) : Int) = 0; rw [f1]; rfl
          have e2 : (b : Int) % (g : Int) = 0 := by show ((b % g : Nat) : Int) = 0; rw [f2]; rfl
          have e3 : (L : Int) % (a : Int) = 0 := by show ((L % a : Nat) : Int) = 0; rw [f3]; rfl
          have e4 : (L : Int) % (b : Int) = 0 := by show ((L % b : Nat) : Int) = 0; rw [f4]; rfl
          have z1 : ((g : Int) == 0) = false := by rw [beq_eq_false_iff_ne]; omega
          have z2 : ((a : Int) == 0) = false := by rw [beq_eq_false_iff_ne]; omega
          have z3 : ((b : Int) == 0) = false := by rw [beq_eq_false_iff_ne]; omega
          clear f1 f2 f3 f4 ha hb
          generalize (g : Int) * 10000 = gg at HI1 HW1 H1
          generalize (L : Int) * 10000 = ll at HI2 HW2 H2
          go_enter Tryd.func10, Tryd.ntmps10
          go_wp2_with (first | (go_at_call 41; fail))
          go_at_call 41
          refine (H1.out _ (Below.refl _ _)).mono ?_
          rintro e w1 ⟨rfl, hb1'⟩
          go_wp2_with (first | (go_at_call 41; fail))
          go_at_call 41
          refine (H2.out _ hb1').mono ?_
          rintro e w2 ⟨rfl, hb2⟩
          have hb02 : Below w.heap.size w w2 := hb1'.trans (hb2.mono hb1'.size)
          clear hb1' hb2 H1 H2
          have hM2 := hM.below hb02
          have hT2 := hT.below hb02
          go_wp2_with (first
            | (go_at_call_of 39 (Value.int IntKind.i64 gg); refine (HI1.out _).mono ?_; rintro e w' ⟨rfl, rfl⟩)
            | (go_at_call_of 39 (Value.int IntKind.i64 ll); refine (HI2.out _).mono ?_; rintro e w' ⟨rfl, rfl⟩)
            | (go_at_call_of 38 (Value.int IntKind.i64 gg); refine (HW1.out _).mono ?_; rintro e w' ⟨rfl, rfl⟩)
            | (go_at_call_of 38 (Value.int IntKind.i64 ll); refine (HW2.out _).mono ?_; rintro e w' ⟨rfl, rfl⟩)
            | (go_at_call 40; fail))
          go_at_call 40
          refine (HAW.out _ hM2 hT2).mono ?_
          rintro e w3 ⟨rfl, hb3⟩
          have hb03 : Below w.heap.size w w3 := hb02.trans (hb3.mono hb02.size)
          clear hb02 hb3 hM2 hT2
          go_wp2_with (first
            | (go_at_call_of 38 (Value.int IntKind.i64 gg); refine (HW1.out _).mono ?_; rintro e w' ⟨rfl, rfl⟩)
            | (go_at_call_of 38 (Value.int IntKind.i64 ll); refine (HW2.out _).mono ?_; rintro e w' ⟨rfl, rfl⟩))
          all_goals go_ret
          all_goals exact ⟨rfl, hb03⟩
end Go.Proofs.YtkobkeopajohiaaDoor
