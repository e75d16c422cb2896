/-
  THE PLAIN LAW of MathsRounds.
-/
import Derived.Test.YtkobkeopajohiaaDoorV6
namespace Go.Proofs.YtkobkeopajohiaaDoor
open Go.RowKit Go.Lib

theorem rounds_core (neg : Bool) (s r u : Nat) (a m x : Int) (ok fits : Bool) (hr : r < u) (hrs : r ≤ s) (hu : u ≤ 10000) (hs : s ≤ 999999999999999999) (ha : a = if neg then -(s : Int) else s) (hneg : neg = decide (a < 0))
    (h1 : Tab.made neg (s - r + (if u - r ≤ r then u else 0)) = (m, ok))
    (h2 : (if (if neg then -((s : Int) - r) else (s : Int) - r) = a then V.num a
      else (if (Tab.fit (if a < 0 then (if neg then -((s : Int) - r) else (s : Int) - r) - u else (if neg then -((s : Int) - r) else (s : Int) - r) + u)).2 then .num (Tab.fit (if a < 0 then (if neg then -((s : Int) - r) else (s : Int) - r) - u else (if neg then -((s : Int) - r) else (s : Int) - r) + u)).1 else .fail 2)).given = (x, fits)) :
    ((ok = false ∨ fits = false) → 999999999999989999 < (a.natAbs : Int)) ∧
    (ok = true → fits = true → (if neg then -((s : Int) - r) else (s : Int) - r).natAbs ≤ a.natAbs ∧ a.natAbs ≤ x.natAbs ∧ (m = (if neg then -((s : Int) - r) else (s : Int) - r) ∨ m = x) ∧ ((if neg then -((s : Int) - r) else (s : Int) - r) ≠ a ∨ x = a)) := by
  have hc : (u - r ≤ r ∧ (if u - r ≤ r then u else 0) = u) ∨ (r < u - r ∧ (if u - r ≤ r then u else 0) = 0) := by
    by_cases h : u - r ≤ r
    · exact .inl ⟨h, if_pos h⟩
    · exact .inr ⟨by omega, if_neg h⟩
  generalize (if u - r ≤ r then u else 0) = c at *
  cases neg
  · simp only [Bool.false_eq_true, if_false] at *
    have hn : ¬ a < 0 := by omega
    rw [if_neg hn] at h2
    subst ha
    unfold Tab.made at h1
    simp only [Bool.false_eq_true, if_false] at h1
    unfold Tab.fit at h2
    by_cases e : (s : Int) - r = s
    · rw [if_pos e] at h2
      simp only [V.given, Prod.mk.injEq] at h2
      obtain ⟨rfl, rfl⟩ := h2
      split at h1
      · simp only [Prod.mk.injEq] at h1
        obtain ⟨rfl, rfl⟩ := h1
        omega
      · simp only [Prod.mk.injEq] at h1
        obtain ⟨rfl, rfl⟩ := h1
        refine ⟨fun h => by simp at h, fun _ _ => ?_⟩
        omega
    · rw [if_neg e] at h2
      by_cases hf : -999999999999999999 ≤ (s : Int) - r + u ∧ (s : Int) - r + u ≤ 999999999999999999
      · simp only [if_pos hf, if_true, V.given, Prod.mk.injEq] at h2
        obtain ⟨rfl, rfl⟩ := h2
        split at h1
        · simp only [Prod.mk.injEq] at h1
          obtain ⟨rfl, rfl⟩ := h1
          refine ⟨fun h => ?_, fun h => by simp at h⟩
          omega
        · simp only [Prod.mk.injEq] at h1
          obtain ⟨rfl, rfl⟩ := h1
          refine ⟨fun h => by simp at h, fun _ _ => ?_⟩
          omega
      · simp only [if_neg hf, if_false, Bool.false_eq_true, V.given, Prod.mk.injEq] at h2
        obtain ⟨rfl, rfl⟩ := h2
        exact ⟨fun _ => by omega, fun _ h => by simp at h⟩
  · simp only [if_true] at *
    have hn : a < 0 := by simpa using hneg.symm
    rw [if_pos hn] at h2
    subst ha
    unfold Tab.made at h1
    simp only [if_true] at h1
    unfold Tab.fit at h2
    by_cases e : -((s : Int) - r) = -(s : Int)
    · rw [if_pos e] at h2
      simp only [V.given, Prod.mk.injEq] at h2
      obtain ⟨rfl, rfl⟩ := h2
      split at h1
      · simp only [Prod.mk.injEq] at h1
        obtain ⟨rfl, rfl⟩ := h1
        omega
      · simp only [Prod.mk.injEq] at h1
        obtain ⟨rfl, rfl⟩ := h1
        refine ⟨fun h => by simp at h, fun _ _ => ?_⟩
        omega
    · rw [if_neg e] at h2
      by_cases hf : -999999999999999999 ≤ -((s : Int) - r) - u ∧ -((s : Int) - r) - u ≤ 999999999999999999
      · simp only [if_pos hf, if_true, V.given, Prod.mk.injEq] at h2
        obtain ⟨rfl, rfl⟩ := h2
        split at h1
        · simp only [Prod.mk.injEq] at h1
          obtain ⟨rfl, rfl⟩ := h1
          refine ⟨fun h => ?_, fun h => by simp at h⟩
          omega
        · simp only [Prod.mk.injEq] at h1
          obtain ⟨rfl, rfl⟩ := h1
          refine ⟨fun h => by simp at h, fun _ _ => ?_⟩
          omega
      · simp only [if_neg hf, if_false, Bool.false_eq_true, V.given, Prod.mk.injEq] at h2
        obtain ⟨rfl, rfl⟩ := h2
        exact ⟨fun _ => by omega, fun _ h => by simp at h⟩

theorem rounds_law (a p m x : Int) (ok fits : Bool) (ha : -999999999999999999 ≤ a ∧ a ≤ 999999999999999999) (hp : p = 0 ∨ p = 1 ∨ p = 2 ∨ p = 3 ∨ p = 4) (hr : Tab.roundS a p = (m, ok)) (hu : (awayV a p).given = (x, fits)) :
    ((ok = false ∨ fits = false) → 999999999999989999 < (a.natAbs : Int)) ∧
    (ok = true → fits = true → (Tab.truncS a p).natAbs ≤ a.natAbs ∧ a.natAbs ≤ x.natAbs ∧ (m = Tab.truncS a p ∨ m = x) ∧ (Tab.truncS a p ≠ a ∨ x = a)) := by
  by_cases h4 : p = 4
  · subst h4
    have e1 : Tab.roundS a 4 = (a, true) := by simp [Tab.roundS]
    have e2 : Tab.truncS a 4 = a := by simp [Tab.truncS]
    have e3 : awayV a 4 = .num a := by simp [awayV, e2]
    rw [e1] at hr
    rw [e3] at hu
    simp only [V.given, Prod.mk.injEq] at hr hu
    obtain ⟨rfl, rfl⟩ := hr
    obtain ⟨rfl, rfl⟩ := hu
    rw [e2]
    simp
  · obtain ⟨u, hu10, hu1, hst⟩ : ∃ u : Nat, u = 10 ^ (4 - p).toNat ∧ (1 ≤ u ∧ u ≤ 10000) ∧ step p = (u : Int) := by
      rcases hp with rfl | rfl | rfl | rfl | rfl
      · exact ⟨_, rfl, by decide, by decide⟩
      · exact ⟨_, rfl, by decide, by decide⟩
      · exact ⟨_, rfl, by decide, by decide⟩
      · exact ⟨_, rfl, by decide, by decide⟩
      · exact absurd rfl h4
    have g1 : ¬ p < -14 := by omega
    have g2 : ¬ 4 ≤ p := by omega
    have ht : Tab.truncS a p = (if decide (a < 0) then -((a.natAbs : Int) - (a.natAbs % u : Nat)) else (a.natAbs : Int) - (a.natAbs % u : Nat)) := by
      unfold Tab.truncS
      rw [if_neg g1, if_neg g2, ← hu10]
      by_cases hn : a < 0
      · rw [decide_eq_true hn, if_pos rfl]
        have e : a = -(a.natAbs : Int) := by omega
        have e2 : a.tmod (u : Int) = -((a.natAbs % u : Nat) : Int) := by
          conv => lhs; rw [e]
          rw [Int.neg_tmod]; rfl
        rw [e2]; omega
      · rw [decide_eq_false hn]
        have e : a = (a.natAbs : Int) := by omega
        have e2 : a.tmod (u : Int) = ((a.natAbs % u : Nat) : Int) := by
          conv => lhs; rw [e]
          rfl
        rw [e2]
        simp only [Bool.false_eq_true, if_false]
        omega
    unfold Tab.roundS at hr
    rw [if_neg g1, if_neg g2, ← hu10] at hr
    unfold Tab.rsize at hr
    unfold awayV at hu
    rw [hst, ht] at hu
    rw [ht]
    have hm1 := Nat.mod_lt a.natAbs (show 0 < u by omega)
    have hm2 := Nat.mod_le a.natAbs u
    exact rounds_core (decide (a < 0)) a.natAbs (a.natAbs % u) u a m x ok fits hm1 hm2 hu1.2 (by omega) (by by_cases hn : a < 0 <;> simp [hn] <;> omega) rfl hr hu
end Go.Proofs.YtkobkeopajohiaaDoor
