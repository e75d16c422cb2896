/-
  CONTRACT of deci.Sqrt: the whole root, bit by bit, for every number from 0 to Most.
-/
import Derived.Test.YtkobkeopajohiaaGreatDoorC1
import Derived.LoopTactic
namespace Go.Proofs.YtkobkeopajohiaaGreatDoor
open Go.RowKit

theorem mul_is (x y : Nat) (hi lo : Int) (w : World) (hx : x < 18446744073709551616) (hy : y < 18446744073709551616) (_h0 : 0 ≤ hi) (h1 : 0 ≤ lo) (hlo : lo < 18446744073709551616) (h : ((x * y : Nat) : Int) = hi * 18446744073709551616 + lo) :
    Calls Tryz.prog 122 #[.int .u64 x, .int .u64 y] w fun e w' => e = .returned (.tuple #[.int .u64 hi, .int .u64 lo]) ∧ w = w' := by
  refine (Tryz.bits_Mul64 x y hx hy w).mono ?_
  rintro e w' ⟨rfl, rfl⟩
  refine ⟨?_, rfl⟩
  have a1 : ((x * y / 18446744073709551616 : Nat) : Int) = hi := by omega
  have a2 : ((x * y % 18446744073709551616 : Nat) : Int) = lo := by omega
  rw [a1, a2]

theorem sqrt_any (a : Int) (w : World) (h0 : 0 ≤ a) (h1 : a ≤ 999999999999999999) :
    Calls Tryz.prog 55 #[.int .i64 a] w fun e w' => e = .returned (.tuple #[.int .i64 (Tab.sqrtS a : Int), .bool true]) ∧ w = w' := by
  obtain ⟨n, rfl⟩ := Int.eq_ofNat_of_zero_le h0
  have hs : Tab.sqrtS (n : Int) = Tab.roots (n * 10000) 38 0 := rfl
  have hst := Tab.sqInv_start (n * 10000)
  obtain ⟨hi, lo, e0, q0, q1, q2⟩ : ∃ hi lo : Int, ((n * 10000 : Nat) : Int) = hi * 18446744073709551616 + lo ∧ 0 ≤ hi ∧ 0 ≤ lo ∧ lo < 18446744073709551616 :=
    ⟨((n * 10000 / 18446744073709551616 : Nat) : Int), ((n * 10000 % 18446744073709551616 : Nat) : Int), by omega, by omega, by omega, by omega⟩
  have hm := mul_is n 10000 hi lo w (by omega) (by omega) q0 q1 q2 e0
  have HM := Lib.hid hm
  have HE := Lib.hid e0
  have HS := Lib.hid hs
  clear hm e0 hs
  have HT := Lib.hid hst
  clear hst
  generalize hN : n * 10000 = N at *
  generalize Tab.roots N 38 0 = R at *
  have hn1 : (n : Int) ≤ 999999999999999999 := h1
  clear hN
  go_enter Tryz.func55, Tryz.ntmps55
  go_wp2_with (first
    | (go_at_call 122; refine HM.out.mono ?_; rintro e w' ⟨rfl, rfl⟩))
  go_loop [6, 7] (fun r b => ∃ j rn bn : Nat, j ≤ 38 ∧ r = .int .u64 rn ∧ b = .int .u64 bn ∧ Hid (bn = 2 ^ j / 2) ∧ Hid (Tab.SqInv N j rn R)) (fun _ b => (intOf b).toNat)
  case atStart => exact ⟨38, 0, 137438953472, by omega, rfl, rfl, (show 137438953472 = 2 ^ 38 / 2 by decide), HT.out⟩
  case round =>
    obtain ⟨j, rn, bn, hj, rfl, rfl, hb, hinv⟩ := hrel
    rcases j with _ | k
    · have hb0 : ¬ 0 < bn := by have : bn = 0 := hb.out; omega
      have hb1 : decide (0 < bn) = false := decide_eq_false hb0
      have hb2 : decide (0 < (bn : Int)) = false := decide_eq_false (by omega)
      have hr1 : (rn : Int) ≤ 274877906944 := by have := hinv.out.2.1; omega
      clear hb hb0
      go_wp2
      go_ret2
      have := Tab.sqInv_end hinv.out
      refine ⟨ret_ib ?_ rfl, rfl⟩
      rw [HS.out, this]
    · have hk : bn = 2 ^ k := by rw [hb.out, Tab.half_pow]
      have hkb : bn ≤ 137438953472 := by rw [hk]; exact Nat.le_trans (Nat.pow_le_pow_right (by omega) (show k ≤ 37 by omega)) (by decide)
      have hk1 : 1 ≤ bn := by rw [hk]; exact Nat.pow_pos (by omega)
      have hor0 := Tab.sqInv_bit hinv.out
      rw [← hk] at hor0
      have hr0 : rn + bn ≤ 274877906944 := by have := hinv.out.2.1; rw [Nat.pow_succ, ← hk] at this; omega
      have hor : bits .or .u64 (rn : Int) (bn : Int) = ((rn + bn : Nat) : Int) := by rw [bits_or_u64_nat _ _ (by omega) (by omega), hor0]
      obtain ⟨h, l, f0, f1, f2, f3⟩ : ∃ h l : Int, (((rn + bn) * (rn + bn) : Nat) : Int) = h * 18446744073709551616 + l ∧ 0 ≤ h ∧ 0 ≤ l ∧ l < 18446744073709551616 :=
        ⟨(((rn + bn) * (rn + bn) / 18446744073709551616 : Nat) : Int), (((rn + bn) * (rn + bn) % 18446744073709551616 : Nat) : Int), by omega, by omega, by omega, by omega⟩
      have hm2 := mul_is (rn + bn) (rn + bn) h l w (by omega) (by omega) f1 f2 f3 f0
      have hlex : (rn + bn) * (rn + bn) ≤ N ↔ h < hi ∨ h = hi ∧ l ≤ lo := by have := HE.out; omega
      have HM2 := Lib.hid hm2
      have HL := Lib.hid hlex
      have HK := Lib.hid hk
      clear hm2 f0 hor0 hlex hk hb
      have hfin : ∀ (P : Prop), (P → Hid (Tab.SqInv N k (rn + bn) R)) → True := fun _ _ => trivial
      clear hfin
      by_cases hq : (rn + bn) * (rn + bn) ≤ N
      · have hnew : Tab.SqInv N k (rn + bn) R := by have := HK.out; rw [this] at hq ⊢; exact Tab.sqInv_yes hinv.out hq
        have HN := Lib.hid hnew
        rcases HL.out.1 hq with h2 | ⟨rfl, h2⟩
        all_goals
          clear hq hnew
          go_wp2_with (first
            | (go_at_call 122; refine HM2.out.mono ?_; rintro e w' ⟨rfl, rfl⟩))
          go_round
          case rel => exact ⟨k, rn + bn, bn / 2, by omega, by go_num, by go_num, by have := HK.out; rw [this]; rfl, HN.out⟩
          case measure => simp [intOf]; omega
      · have hnew : Tab.SqInv N k rn R := by have := HK.out; rw [this] at hq; exact Tab.sqInv_no hinv.out hq
        have HN := Lib.hid hnew
        have hnl := fun e => hq (HL.out.2 e)
        by_cases he : h = hi
        · subst he
          have h2 : lo < l := Int.not_le.1 fun e => hnl (.inr ⟨rfl, e⟩)
          clear hq hnew hnl
          go_wp2_with (first
            | (go_at_call 122; refine HM2.out.mono ?_; rintro e w' ⟨rfl, rfl⟩))
          go_round
          case rel => exact ⟨k, rn, bn / 2, by omega, by go_num, by go_num, by have := HK.out; rw [this]; rfl, HN.out⟩
          case measure => simp [intOf]; omega
        · have h2 : hi < h := by have h3 := Int.not_lt.1 fun e => hnl (.inl e); omega
          have he' : (h == hi) = false := by simp [he]
          clear hq hnew hnl he
          go_wp2_with (first
            | (go_at_call 122; refine HM2.out.mono ?_; rintro e w' ⟨rfl, rfl⟩))
          go_round
          case rel => exact ⟨k, rn, bn / 2, by omega, by go_num, by go_num, by have := HK.out; rw [this]; rfl, HN.out⟩
          case measure => simp [intOf]; omega
end Go.Proofs.YtkobkeopajohiaaGreatDoor
