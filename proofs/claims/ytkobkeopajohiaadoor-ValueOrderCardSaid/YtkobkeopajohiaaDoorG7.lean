/-
  THE PLAIN LAW of Compare: values that are no failures and not blank lie in one order.
-/
import Derived.Test.YtkobkeopajohiaaDoorG6
namespace Go.Proofs.YtkobkeopajohiaaDoor
open Go.RowKit Go.Lib

theorem cb_swap : ∀ a b : List UInt8, compareBytes b a = - compareBytes a b
  | [], [] => rfl
  | [], _ :: _ => rfl
  | _ :: _, [] => rfl
  | x :: a, y :: b => by
    unfold compareBytes
    have h1 : x < y ↔ x.toNat < y.toNat := UInt8.lt_iff_toNat_lt
    have h2 : y < x ↔ y.toNat < x.toNat := UInt8.lt_iff_toNat_lt
    by_cases h : x < y
    · rw [if_pos h, if_neg (by rw [h2]; rw [h1] at h; omega), if_pos h]; rfl
    · by_cases h' : y < x
      · rw [if_pos h', if_neg h, if_pos h']
      · rw [if_neg h', if_neg h, if_neg h, if_neg h']; exact cb_swap a b
theorem cb_range : ∀ a b : List UInt8, compareBytes a b = -1 ∨ compareBytes a b = 0 ∨ compareBytes a b = 1
  | [], [] => .inr (.inl rfl)
  | [], _ :: _ => .inl rfl
  | _ :: _, [] => .inr (.inr rfl)
  | x :: a, y :: b => by
    unfold compareBytes
    split
    · exact .inl rfl
    · split
      · exact .inr (.inr rfl)
      · exact cb_range a b
theorem cb_trans : ∀ a b c : List UInt8, compareBytes a b ≤ 0 → compareBytes b c ≤ 0 → compareBytes a c ≤ 0
  | [], _, [], _, _ => by decide
  | [], _, _ :: _, _, _ => by simp [compareBytes]
  | _ :: _, [], _, h, _ => by simp [compareBytes] at h
  | _ :: _, _ :: _, [], _, h => by simp [compareBytes] at h
  | x :: a, y :: b, z :: c, h1, h2 => by
    unfold compareBytes at h1 h2 ⊢
    have l1 : x < y ↔ x.toNat < y.toNat := UInt8.lt_iff_toNat_lt
    have l2 : y < x ↔ y.toNat < x.toNat := UInt8.lt_iff_toNat_lt
    have l3 : y < z ↔ y.toNat < z.toNat := UInt8.lt_iff_toNat_lt
    have l4 : z < y ↔ z.toNat < y.toNat := UInt8.lt_iff_toNat_lt
    have l5 : x < z ↔ x.toNat < z.toNat := UInt8.lt_iff_toNat_lt
    have l6 : z < x ↔ z.toNat < x.toNat := UInt8.lt_iff_toNat_lt
    by_cases g1 : x < z
    · rw [if_pos g1]; decide
    · rw [if_neg g1]
      have n2 : ¬ y < x := fun h => by
        by_cases e : x < y
        · rw [l1] at e; rw [l2] at h; omega
        · rw [if_neg e, if_pos h] at h1; exact absurd h1 (by decide)
      have n4 : ¬ z < y := fun h => by
        by_cases e : y < z
        · rw [l3] at e; rw [l4] at h; omega
        · rw [if_neg e, if_pos h] at h2; exact absurd h2 (by decide)
      have n1 : ¬ x < y := fun h => g1 (by rw [l5]; rw [l1] at h; rw [l4] at n4; omega)
      have n3 : ¬ y < z := fun h => g1 (by rw [l5]; rw [l3] at h; rw [l2] at n2; omega)
      have n6 : ¬ z < x := by rw [l6]; rw [l1] at n1; rw [l2] at n2; rw [l3] at n3; rw [l4] at n4; omega
      rw [if_neg n6]
      rw [if_neg n1, if_neg n2] at h1
      rw [if_neg n3, if_neg n4] at h2
      exact cb_trans a b c h1 h2
/-- neither a failure nor blank -/
def V.plain : V → Prop | .num _ => True | .text _ => True | .bool _ => True | _ => False
theorem as_self (a b : V) (h : a.plain) : a.as b = a := by cases a <;> first | rfl | exact h.elim
theorem cmp_swap (a b : V) (ha : a.plain) (hb : b.plain) : b.cmp a = - a.cmp b := by
  unfold V.cmp
  rw [as_self a b ha, as_self b a hb]
  unfold cmpOf
  cases a <;> cases b <;> simp only [V.rank, V.plain, V.given] at * <;> first
    | exact cb_swap _ _
    | rfl
    | (rename_i p q; cases p <;> cases q <;> rfl)
    | (repeat' split <;> omega)
theorem cmp_self (a : V) (ha : a.plain) : a.cmp a = 0 := by
  have := cmp_swap a a ha ha
  omega
theorem le0 (m n : Int) : ((if m < n then (-1 : Int) else if n < m then 1 else 0) ≤ 0) ↔ m ≤ n := by
  constructor
  · intro h
    split at h
    · omega
    · split at h
      · omega
      · omega
  · intro h
    split
    · omega
    · rw [if_neg (by omega)]; exact Int.le_refl _
theorem cmp_trans (a b c : V) (ha : a.plain) (hb : b.plain) (hc : c.plain) (h1 : a.cmp b ≤ 0) (h2 : b.cmp c ≤ 0) : a.cmp c ≤ 0 := by
  unfold V.cmp at *
  rw [as_self a b ha, as_self b a hb] at h1
  rw [as_self b c hb, as_self c b hc] at h2
  rw [as_self a c ha, as_self c a hc]
  unfold cmpOf at *
  cases a <;> cases b <;> cases c <;> simp only [V.rank, V.plain, V.given, if_true] at * <;> first
    | exact cb_trans _ _ _ h1 h2
    | (rename_i p q r; revert h1 h2; cases p <;> cases q <;> cases r <;> decide)
    | omega
    | (simp at h1; done)
    | (simp at h2; done)
    | (simp; done)
end Go.Proofs.YtkobkeopajohiaaDoor
