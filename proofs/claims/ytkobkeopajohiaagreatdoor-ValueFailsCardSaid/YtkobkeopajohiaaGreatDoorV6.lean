/-
  NUMBERS: away from nought; the second number, as a count of places.
-/
import Derived.Test.YtkobkeopajohiaaGreatDoorV4
import Derived.Test.YtkobkeopajohiaaGreatDoorV5
namespace Go.Proofs.YtkobkeopajohiaaGreatDoor
open Go.RowKit Go.Lib

theorem counted_is (n : Int) (ok : Bool) (w : World) :
    Calls Tryz.prog 43 #[.int .i64 n, .bool ok] w fun e w' => e = .returned (if ok then V.num n else V.fail 2).val ∧ w = w' := by
  cases ok
  · exact counted_no n w
  · exact counted_yes n w
theorem counted_v (n : Int) (ok : Bool) (v : V) (w : World) (h : (if ok then V.num n else V.fail 2) = v) :
    Calls Tryz.prog 43 #[.int .i64 n, .bool ok] w fun e w' => e = .returned v.val ∧ w = w' := by
  subst h
  exact counted_is n ok w

theorem add_is (a b n : Int) (ok : Bool) (w : World) (h : -2000000000000000000 ≤ a + b ∧ a + b ≤ 2000000000000000000) (hf : Tab.fit (a + b) = (n, ok)) :
    Calls Tryz.prog 93 #[.int .i64 a, .int .i64 b] w fun e w' => e = .returned (.tuple #[.int .i64 n, .bool ok]) ∧ w = w' := by
  have := add_any a b w h
  rw [hf] at this
  exact this
theorem sub_is (a b n : Int) (ok : Bool) (w : World) (h : -2000000000000000000 ≤ a - b ∧ a - b ≤ 2000000000000000000) (hf : Tab.fit (a - b) = (n, ok)) :
    Calls Tryz.prog 94 #[.int .i64 a, .int .i64 b] w fun e w' => e = .returned (.tuple #[.int .i64 n, .bool ok]) ∧ w = w' := by
  have := sub_any a b w h
  rw [hf] at this
  exact this

/-- 1 in the last of so many places -/
def step (n : Int) : Int := 10000 / 10 ^ n.toNat
def awayV (a n : Int) : V :=
  if Tab.truncS a n = a then .num a
  else (if (Tab.fit (if a < 0 then Tab.truncS a n - step n else Tab.truncS a n + step n)).2 then .num (Tab.fit (if a < 0 then Tab.truncS a n - step n else Tab.truncS a n + step n)).1 else .fail 2)
theorem step_bd (n : Int) (h : n = 0 ∨ n = 1 ∨ n = 2 ∨ n = 3 ∨ n = 4) : 0 ≤ step n ∧ step n ≤ 10000 := by
  rcases h with rfl | rfl | rfl | rfl | rfl <;> decide

set_option maxRecDepth 100000 in
theorem away_is (a n : Int) (v : V) (w : World) (hG : GT w) (ha : -999999999999999999 ≤ a ∧ a ≤ 999999999999999999) (hn : n = 0 ∨ n = 1 ∨ n = 2 ∨ n = 3 ∨ n = 4) (hv : awayV a n = v) :
    Calls Tryz.prog 48 #[.int .i64 a, .int .i64 n] w fun e w' => e = .returned v.val ∧ ∃ n, w' = w.drewN n := by
  have HT := Lib.hid fun w hG => trunc_any a n w hG ha
  have HP := Lib.hid fun w => pow_tens n w hn
  have HU : n = 0 ∨ (0 < n ∧ Hid (∀ w, Calls Tryz.prog 118 #[.int .i64 n] w fun e w' => e = .returned (.int .i64 (step n)) ∧ w = w')) := by
    rcases hn with h | h
    · exact .inl h
    · exact .inr ⟨by omega, Lib.hid fun w => unit108 n w h⟩
  obtain ⟨t0, t1⟩ : -999999999999999999 ≤ Tab.truncS a n ∧ Tab.truncS a n ≤ 999999999999999999 := by
    have h1 : ¬ n < -14 := by omega
    unfold Tab.truncS
    rw [if_neg h1]
    split
    · exact ha
    · have := Tab.tmod_sub a (10 ^ (4 - n).toNat)
      omega
  obtain ⟨s0, s1⟩ := step_bd n hn
  have hn0 : 0 ≤ n ∧ n ≤ 4 := by omega
  rw [show (10000 / 10 ^ n.toNat : Int) = step n from rfl] at HP
  unfold awayV at hv
  generalize Tab.truncS a n = t at *
  generalize step n = u at *
  obtain ⟨n0, n1⟩ := hn0
  clear hn
  by_cases hta : t = a
  · rw [if_pos hta] at hv
    subst hv
    subst hta
    have hc : (t == t) = true := by simp
    go_enter Tryz.func48, Tryz.ntmps48
    go_wp2_with (first | (go_at_call 45; refine (HT.out _ hG).mono ?_; rintro e w' ⟨rfl, rfl⟩))
    go_ret
    exact ⟨rfl, 0, rfl⟩
  · rw [if_neg hta] at hv
    have hc : (t == a) = false := by rw [beq_eq_false_iff_ne]; exact hta
    by_cases hneg : a < 0
    · rw [if_pos hneg] at hv
      obtain ⟨m, ok, hm⟩ : ∃ m ok, Tab.fit (t - u) = (m, ok) := ⟨_, _, rfl⟩
      rw [hm] at hv
      have HS := Lib.hid fun w => sub_is t u m ok w (by omega) hm
      have HC := Lib.hid fun w => counted_v m ok v w hv
      clear hv hm hta
      rcases HU with rfl | ⟨hn1, HU⟩
      · rw [Int.neg_zero] at HP
        go_enter Tryz.func48, Tryz.ntmps48
        go_wp2_with (first
          | (go_at_call 45; refine (HT.out _ hG).mono ?_; rintro e w' ⟨rfl, rfl⟩)
          | (go_at_call 117; refine (HP.out _).mono ?_; rintro e w' ⟨rfl, k, rfl⟩)
          | (go_at_call 94; refine (HS.out _).mono ?_; rintro e w' ⟨rfl, rfl⟩)
          | (go_at_call 43; refine (HC.out _).mono ?_; rintro e w' ⟨rfl, rfl⟩))
        go_ret
        exact ⟨rfl, _, rfl⟩
      · go_enter Tryz.func48, Tryz.ntmps48
        go_wp2_with (first
          | (go_at_call 45; refine (HT.out _ hG).mono ?_; rintro e w' ⟨rfl, rfl⟩)
          | (go_at_call 117; refine (HP.out _).mono ?_; rintro e w' ⟨rfl, k, rfl⟩)
          | (go_at_call 118; refine (HU.out _).mono ?_; rintro e w' ⟨rfl, rfl⟩)
          | (go_at_call 94; refine (HS.out _).mono ?_; rintro e w' ⟨rfl, rfl⟩)
          | (go_at_call 43; refine (HC.out _).mono ?_; rintro e w' ⟨rfl, rfl⟩))
        go_ret
        exact ⟨rfl, _, rfl⟩
    · rw [if_neg hneg] at hv
      obtain ⟨m, ok, hm⟩ : ∃ m ok, Tab.fit (t + u) = (m, ok) := ⟨_, _, rfl⟩
      rw [hm] at hv
      have HS := Lib.hid fun w => add_is t u m ok w (by omega) hm
      have HC := Lib.hid fun w => counted_v m ok v w hv
      clear hv hm hta
      rcases HU with rfl | ⟨hn1, HU⟩
      · rw [Int.neg_zero] at HP
        go_enter Tryz.func48, Tryz.ntmps48
        go_wp2_with (first
          | (go_at_call 45; refine (HT.out _ hG).mono ?_; rintro e w' ⟨rfl, rfl⟩)
          | (go_at_call 117; refine (HP.out _).mono ?_; rintro e w' ⟨rfl, k, rfl⟩)
          | (go_at_call 93; refine (HS.out _).mono ?_; rintro e w' ⟨rfl, rfl⟩)
          | (go_at_call 43; refine (HC.out _).mono ?_; rintro e w' ⟨rfl, rfl⟩))
        go_ret
        exact ⟨rfl, _, rfl⟩
      · go_enter Tryz.func48, Tryz.ntmps48
        go_wp2_with (first
          | (go_at_call 45; refine (HT.out _ hG).mono ?_; rintro e w' ⟨rfl, rfl⟩)
          | (go_at_call 117; refine (HP.out _).mono ?_; rintro e w' ⟨rfl, k, rfl⟩)
          | (go_at_call 118; refine (HU.out _).mono ?_; rintro e w' ⟨rfl, rfl⟩)
          | (go_at_call 93; refine (HS.out _).mono ?_; rintro e w' ⟨rfl, rfl⟩)
          | (go_at_call 43; refine (HC.out _).mono ?_; rintro e w' ⟨rfl, rfl⟩))
        go_ret
        exact ⟨rfl, _, rfl⟩

/-- the second number -/
theorem second_two (b cap : Nat) (o n : Int) (w : World) (h : w.cell? ⟨b, 1, none⟩ = some (.int .i64 n)) :
    Calls Tryz.prog 50 #[.slice (some ⟨b, 0, none⟩) 2 cap, .int .i64 o] w fun e w' => e = .returned (.int .i64 n) ∧ w = w' := by
  go_enter Tryz.func50, Tryz.ntmps50
  go_wp2
  go_ret
  exact ⟨rfl, rfl⟩
/-- the second number, as a count of places that is none of many -/
theorem places_two (b cap : Nat) (k : Int) (w : World) (h : w.cell? ⟨b, 1, none⟩ = some (.int .i64 (k * 10000))) (hk : 0 ≤ k ∧ k ≤ 20) :
    Calls Tryz.prog 46 #[.slice (some ⟨b, 0, none⟩) 2 cap] w fun e w' => e = .returned (.int .i64 k) ∧ w = w' := by
  obtain ⟨k0, k1⟩ := hk
  have HS := Lib.hid (second_two b cap 0 (k * 10000) w h)
  have HW := Lib.hid fun w => whole_any (k * 10000) w (by omega) (by omega)
  rw [Int.mul_tdiv_cancel k (by decide)] at HW
  generalize k * 10000 = x at *
  clear h
  go_enter Tryz.func46, Tryz.ntmps46
  go_wp2_with (first
    | (go_at_call 50; refine HS.out.mono ?_; rintro e w' ⟨rfl, rfl⟩)
    | (go_at_call 114; refine (HW.out _).mono ?_; rintro e w' ⟨rfl, rfl⟩))
  go_ret
  exact ⟨ret_int (by omega), rfl⟩
end Go.Proofs.YtkobkeopajohiaaGreatDoor
