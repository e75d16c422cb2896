/-
  PLAIN LAWS: lengths of digits that are cut; numbers cut off; the reference's remainder.
-/
import Derived.Test.YtkobkeopajohiaaGreatDoorPl2
import Derived.Test.YtkobkeopajohiaaGreatDoorPl3
namespace Tab
open Go.Lib
theorem incR_len (l : List UInt8) : (incR l).length ≤ l.length + 1 := by
  induction l with
  | nil => simp [incR]
  | cons c l ih => simp only [incR]; split <;> simp <;> omega
theorem inc_len (l : List UInt8) : (inc l).length ≤ l.length + 1 := by
  unfold inc
  have := incR_len l.reverse
  simpa using this
theorem cutR_len (l : List UInt8) (n : Nat) : (cutR l n).length ≤ l.length + n + 2 := by
  have hp : (padTo n l).length ≤ l.length + n + 1 := by unfold padTo; rw [List.length_append, List.length_replicate]; omega
  unfold cutR
  split
  · omega
  · split
    · have := inc_len ((padTo n l).take ((padTo n l).length - n))
      rw [List.length_take] at this
      omega
    · rw [List.length_take]; omega

/-- the reference's Trunc of digits: the last n become noughts -/
def truncR (a p : Int) : Int :=
  if 4 ≤ p then a else if p < -14 then 0 else
    if (decDigits a.natAbs).length ≤ (4 - p).toNat then 0 else (valueR (decide (a < 0)) ((decDigits a.natAbs).take ((decDigits a.natAbs).length - (4 - p).toNat) ++ List.replicate (4 - p).toNat 48)).1
theorem truncR_eq (a p : Int) (ha : -999999999999999999 ≤ a ∧ a ≤ 999999999999999999) : truncR a p = truncS a p := by
  unfold truncR truncS
  by_cases h4 : 4 ≤ p
  · rw [if_pos h4, if_neg (by omega), if_pos h4]
  · rw [if_neg h4, if_neg h4]
    by_cases h14 : p < -14
    · rw [if_pos h14, if_pos h14]
    · rw [if_neg h14, if_neg h14]
      obtain ⟨n, hn⟩ : ∃ n : Nat, (4 - p).toNat = n := ⟨_, rfl⟩
      rw [hn]
      have hu : 0 < 10 ^ n := Nat.pow_pos (by omega)
      have hd := dig_dec a.natAbs
      have hv := val_dec a.natAbs
      have hlt := val_lt hd
      rw [hv] at hlt
      generalize decDigits a.natAbs = s at *
      have ht := tmod_sub a (10 ^ n)
      have hta : (a.tmod ((10 ^ n : Nat) : Int)).natAbs = a.natAbs % 10 ^ n := by rw [Int.natAbs_tmod]; rfl
      by_cases hl : s.length ≤ n
      · rw [if_pos hl]
        have : a.natAbs < 10 ^ n := Nat.lt_of_lt_of_le hlt (Nat.pow_le_pow_right (by omega) hl)
        rw [Nat.mod_eq_of_lt this] at hta
        have h1 := ht.1
        have h2 := ht.2
        generalize a.tmod ((10 ^ n : Nat) : Int) = m at *
        rcases Int.le_total 0 a with h0 | h0
        · have := h1 h0; omega
        · have := h2 h0; omega
      · rw [if_neg hl]
        have hsplit := List.take_append_drop (s.length - n) s
        have hdt : Dig (s.take (s.length - n)) := by rw [← hsplit] at hd; exact hd.left
        have hdd : Dig (s.drop (s.length - n)) := by rw [← hsplit] at hd; exact hd.right
        have hlen : (s.drop (s.length - n)).length = n := by rw [List.length_drop]; omega
        have hvd := val_lt hdd
        rw [hlen] at hvd
        have hva : a.natAbs = val (s.take (s.length - n)) * 10 ^ n + val (s.drop (s.length - n)) := by
          have h := val_append (s.take (s.length - n)) (s.drop (s.length - n))
          rw [hsplit, hlen, hv] at h
          exact h
        rw [valueR_val _ (hdt.append (dig_zeros n)), val_append, val_zeros, List.length_replicate, Nat.add_zero]
        generalize val (s.take (s.length - n)) = x at *
        generalize val (s.drop (s.length - n)) = y at *
        have hm : a.natAbs % 10 ^ n = y := by rw [hva, Nat.mul_comm, Nat.mul_add_mod, Nat.mod_eq_of_lt hvd]
        rw [hm] at hta
        generalize 10 ^ n = u at *
        have h1 := ht.1
        have h2 := ht.2
        generalize a.tmod (u : Int) = m at *
        generalize hxu : x * u = z at *
        have hz : z ≤ 999999999999999999 := by omega
        unfold made
        rw [if_neg (by omega)]
        by_cases hneg : a < 0
        · rw [decide_eq_true hneg, if_pos rfl]
          have := h2 (by omega)
          show -(z : Int) = _
          omega
        · rw [decide_eq_false hneg]
          have := h1 (by omega)
          show (z : Int) = _
          omega

theorem rest_eq (a b : Int) : a - a.tdiv b * b = a.tmod b := by
  have := Int.tdiv_mul_add_tmod a b
  omega
theorem ceilR (a s : Int) (ha : -999999999999999999 ≤ a ∧ a ≤ 999999999999999999) (hs : 0 < s ∧ s ≤ 999999999999999999) :
    (a % s = 0 → (-(fit (-a - (-a) % s)).1 = a ∧ (fit (-a - (-a) % s)).2 = true)) ∧
    (a % s ≠ 0 → (-(fit (-a - (-a) % s)).1 = (fit (a - a % s + s)).1 ∧ (fit (-a - (-a) % s)).2 = (fit (a - a % s + s)).2)) := by
  have hk := neg_mod a s hs.1
  have h1 := Int.emod_nonneg a (show s ≠ 0 by omega)
  have h2 := Int.emod_lt_of_pos a hs.1
  generalize (-a) % s = k at *
  generalize a % s = m at *
  refine ⟨fun hm => ?_, fun hm => ?_⟩
  · rw [if_pos hm] at hk
    subst hk
    unfold fit
    rw [if_pos (by omega)]
    exact ⟨by simp, rfl⟩
  · rw [if_neg hm] at hk
    subst hk
    unfold fit
    by_cases hc : -999999999999999999 ≤ a - m + s ∧ a - m + s ≤ 999999999999999999
    · rw [if_pos (by omega), if_pos hc]
      exact ⟨by simp; omega, rfl⟩
    · rw [if_neg (by omega), if_neg hc]
      exact ⟨rfl, rfl⟩
end Tab
