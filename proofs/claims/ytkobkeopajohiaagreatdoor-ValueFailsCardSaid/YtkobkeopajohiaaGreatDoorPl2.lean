/-
  PLAIN LAWS: a rounded number is near; a root's square isn't above; a number is Floor and Mod.
-/
import Derived.Test.YtkobkeopajohiaaGreatDoorPlain
namespace Tab
open Go.Lib

theorem near_law (a p : Int) (ha : -999999999999999999 ≤ a ∧ a ≤ 999999999999999999) (hp : 0 ≤ p ∧ p ≤ 4) (r : Int) (h : roundS a p = (r, true)) :
    (-999999999999999999 ≤ r ∧ r ≤ 999999999999999999) ∧ roundS r p = (r, true) ∧ 2 * ((a - r).natAbs : Int) ≤ ((10 ^ (4 - p).toNat : Nat) : Int) ∧ r.tmod ((10 ^ (4 - p).toNat : Nat) : Int) = 0 := by
  by_cases h4 : 4 ≤ p
  · obtain rfl : p = 4 := by omega
    have e : roundS a 4 = (a, true) := rfl
    rw [e] at h
    obtain rfl : a = r := by simpa using h
    refine ⟨ha, rfl, ?_, ?_⟩
    · simp
    · exact Int.tmod_one a
  · have hu := ten_pow_bd (4 - p).toNat (by omega)
    unfold roundS at h ⊢
    rw [if_neg (by omega), if_neg h4] at h
    rw [if_neg (by omega), if_neg h4]
    generalize 10 ^ (4 - p).toNat = u at *
    have hm := rsize_mod a.natAbs u
    have hn := rsize_near a.natAbs u (by omega)
    generalize rsize a.natAbs u = s at *
    unfold made at h
    by_cases hs : 999999999999999999 < s
    · rw [if_pos hs] at h; simp at h
    · rw [if_neg hs] at h
      have hr : r.natAbs = s ∧ (0 ≤ a → r = s) ∧ (a < 0 → r = -(s : Int)) := by
        by_cases hneg : a < 0
        · simp [hneg] at h; omega
        · simp [hneg] at h; omega
      obtain ⟨hr1, hr2, hr3⟩ := hr
      refine ⟨by omega, ?_, ?_, ?_⟩
      · rw [hr1, rsize_fix s u (by omega) hm]
        unfold made
        rw [if_neg hs]
        by_cases hr0 : r < 0
        · simp [hr0]; omega
        · simp [hr0]; omega
      · by_cases hneg : a < 0
        · have := hr3 hneg; omega
        · have := hr2 (by omega); omega
      · have h1 : (r.tmod (u : Int)).natAbs = r.natAbs % u := by rw [Int.natAbs_tmod]; rfl
        rw [hr1, hm] at h1
        omega

theorem root_law (a : Int) (h0 : 0 ≤ a) (h1 : a ≤ 10000000000) :
    (sqrtS a : Int) ≤ 10000000 ∧ (sqrtS a : Int) * (sqrtS a : Int) ≤ a * 10000 ∧ a * 10000 < ((sqrtS a : Int) + 1) * ((sqrtS a : Int) + 1) := by
  obtain ⟨s1, s2⟩ := sqrtS_spec a h0 (by omega)
  generalize sqrtS a = r at *
  have hr : r ≤ 10000000 := by
    rcases Nat.lt_or_ge 10000000 r with h | h
    · have := Nat.mul_le_mul (show 10000001 ≤ r by omega) (show 10000001 ≤ r by omega)
      omega
    · exact h
  refine ⟨by omega, ?_, ?_⟩
  · have : ((r * r : Nat) : Int) ≤ ((a.toNat * 10000 : Nat) : Int) := Int.ofNat_le.2 s1
    have e : ((r * r : Nat) : Int) = (r : Int) * (r : Int) := Int.natCast_mul r r
    rw [e] at this
    omega
  · have : ((a.toNat * 10000 : Nat) : Int) < (((r + 1) * (r + 1) : Nat) : Int) := Int.ofNat_lt.2 s2
    have e : (((r + 1) * (r + 1) : Nat) : Int) = ((r : Int) + 1) * ((r : Int) + 1) := by rw [Int.natCast_mul]; rfl
    rw [e] at this
    omega

theorem neg_mod (a s : Int) (hs : 0 < s) : (-a) % s = if a % s = 0 then 0 else s - a % s := by
  have h1 := Int.emod_nonneg a (show s ≠ 0 by omega)
  have h2 := Int.emod_lt_of_pos a hs
  have h3 := Int.mul_ediv_add_emod a s
  split
  · rename_i h
    exact Int.emod_eq_zero_of_dvd ((Int.dvd_neg).2 (Int.dvd_of_emod_eq_zero h))
  · have e : -a = (s - a % s) + s * (-(a / s) - 1) := by
      rw [Int.mul_sub, Int.mul_neg, Int.mul_one]; omega
    rw [e, Int.add_mul_emod_self_left]
    exact Int.emod_eq_of_lt (by omega) (by omega)

theorem parts_law (a s : Int) (ha : -999999999999999999 ≤ a ∧ a ≤ 999999999999999999) (hs : 0 < s ∧ s ≤ 999999999999999999) :
    ((fit (a - a % s)).2 = false → a < 0) ∧
    ((fit (a - a % s)).2 = true → (fit (a - a % s)).1 + a % s = a ∧
      ((fit (-a - (-a) % s)).2 = true → (a % s = 0 → -(fit (-a - (-a) % s)).1 = a) ∧ (a % s ≠ 0 → -(fit (-a - (-a) % s)).1 = (fit (a - a % s)).1 + s))) := by
  obtain ⟨s0, s1⟩ := hs
  have h1 := Int.emod_nonneg a (show s ≠ 0 by omega)
  have h2 := Int.emod_lt_of_pos a s0
  have h4 := neg_mod a s s0
  generalize (-a) % s = k at *
  generalize a % s = m at *
  refine ⟨?_, ?_⟩
  · unfold fit
    split
    · intro h; simp at h
    · rename_i hn
      intro _
      omega
  · intro hf
    have e1 : (fit (a - m)).1 = a - m := by unfold fit at hf ⊢; split at hf <;> simp_all
    rw [e1]
    refine ⟨by omega, fun hc => ?_⟩
    have e2 : (fit (-a - k)).1 = -a - k := by unfold fit at hc ⊢; split at hc <;> simp_all
    rw [e2]
    refine ⟨fun hm => ?_, fun hm => ?_⟩
    · rw [if_pos hm] at h4; omega
    · rw [if_neg hm] at h4; omega
end Tab
