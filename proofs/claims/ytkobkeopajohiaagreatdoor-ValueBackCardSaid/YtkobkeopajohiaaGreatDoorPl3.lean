/-
  PLAIN LAWS of lists of digits: what they come to, with noughts ahead, behind, cut, one more.
-/
import Derived.Test.YtkobkeopajohiaaGreatDoorPlain
namespace Tab
open Go.Lib

theorem snocRec {motive : List UInt8 → Prop} (nil : motive []) (append_singleton : ∀ (l : List UInt8) (c : UInt8), motive l → motive (l ++ [c])) (l : List UInt8) : motive l := by
  have h : ∀ m : List UInt8, motive m.reverse := by
    intro m
    induction m with
    | nil => exact nil
    | cons c m ih => rw [List.reverse_cons]; exact append_singleton _ c ih
  have := h l.reverse
  rwa [List.reverse_reverse] at this

def val (l : List UInt8) : Nat := l.foldl (fun n c => 10 * n + (c.toNat - 48)) 0
def Dig (l : List UInt8) : Prop := ∀ c ∈ l, 48 ≤ c.toNat ∧ c.toNat ≤ 57

theorem val_nil : val [] = 0 := rfl
theorem val_snoc (l : List UInt8) (c : UInt8) : val (l ++ [c]) = 10 * val l + (c.toNat - 48) := by simp [val, List.foldl_append]
theorem Dig.left {l m : List UInt8} (h : Dig (l ++ m)) : Dig l := fun c hc => h c (by simp [hc])
theorem Dig.right {l m : List UInt8} (h : Dig (l ++ m)) : Dig m := fun c hc => h c (by simp [hc])
theorem Dig.append {l m : List UInt8} (h : Dig l) (h' : Dig m) : Dig (l ++ m) := fun c hc => by
  rcases List.mem_append.1 hc with h1 | h1
  · exact h c h1
  · exact h' c h1
theorem dig_dec (n : Nat) : Dig (decDigits n) := dec_mem n
theorem dig_zeros (k : Nat) : Dig (List.replicate k 48) := fun c hc => by rw [(List.mem_replicate.1 hc).2]; decide
theorem val_append (l m : List UInt8) : val (l ++ m) = val l * 10 ^ m.length + val m := by
  induction m using snocRec with
  | nil => simp [val_nil]
  | append_singleton m c ih =>
    rw [← List.append_assoc, val_snoc, ih, val_snoc, List.length_append, List.length_singleton, Nat.pow_succ, Nat.mul_add, ← Nat.mul_assoc, ← Nat.mul_assoc, Nat.mul_comm 10 (val l), Nat.mul_assoc (val l), Nat.mul_comm 10, ← Nat.mul_assoc]
    omega
theorem val_zeros (k : Nat) : val (List.replicate k 48) = 0 := by
  induction k with
  | zero => rfl
  | succ k ih => rw [List.replicate_succ', val_snoc, ih]; rfl
theorem val_lt {l : List UInt8} (h : Dig l) : val l < 10 ^ l.length := by
  induction l using snocRec with
  | nil => simp [val_nil]
  | append_singleton l c ih =>
    have := ih h.left
    have hc := h c (by simp)
    rw [val_snoc, List.length_append, List.length_singleton, Nat.pow_succ]
    omega
theorem val_dec (n : Nat) : val (decDigits n) = n := by
  induction n using Nat.strongRecOn with
  | _ n ih =>
    rw [decDigits]
    by_cases h : n < 10
    · rw [dif_pos h]
      show 10 * 0 + ((UInt8.ofNat (48 + n)).toNat - 48) = n
      rw [dig_byte n h]; omega
    · rw [dif_neg h, val_snoc, ih (n / 10) (by omega), dig_byte _ (by omega)]; omega

theorem digs_snoc (l : List UInt8) (c : UInt8) : ∀ n, digs n (l ++ [c]) = (digs n l).bind fun k => digs k [c] := by
  induction l with
  | nil => intro n; rfl
  | cons d l ih =>
    intro n
    simp only [List.cons_append, digs]
    split
    · rfl
    · rw [ih]; rfl
theorem digs_val {l : List UInt8} (h : Dig l) : digs 0 l = if val l ≤ 999999999999999999 then some (val l) else none := by
  induction l using snocRec with
  | nil => rfl
  | append_singleton l c ih =>
    have hc := h c (by simp)
    rw [digs_snoc, ih h.left, val_snoc]
    have hc' : ¬ (c < 48 ∨ 57 < c) := by
      simp only [UInt8.lt_iff_toNat_lt]
      show ¬ (c.toNat < 48 ∨ 57 < c.toNat)
      omega
    simp only [not_or] at hc'
    split
    · rename_i h1
      simp only [Option.bind_some, digs]
      by_cases h2 : 99999999999999999 < val l
      · rw [if_pos (.inr (.inr h2)), if_neg (by omega)]
      · rw [if_neg (by simp only [not_or]; exact ⟨hc'.1, hc'.2, h2⟩), if_pos (by omega)]
    · rename_i h1
      rw [if_neg (by omega)]; rfl

/-- the reference's reading of digits -/
def valueR (m : Bool) (l : List UInt8) : Int × Bool := valOf m (digs 0 l)
theorem valueR_val (m : Bool) {l : List UInt8} (h : Dig l) : valueR m l = made m (val l) := by
  unfold valueR
  rw [digs_val h]
  split
  · rfl
  · unfold made valOf; rw [if_pos (by omega)]

def strip (l : List UInt8) : List UInt8 := l.dropWhile (· == 48)
theorem strip_split (l : List UInt8) : ∃ k, l = List.replicate k 48 ++ strip l := by
  induction l with
  | nil => exact ⟨0, rfl⟩
  | cons c l ih =>
    obtain ⟨k, hk⟩ := ih
    unfold strip at hk ⊢
    by_cases hc : c = 48
    · subst hc
      refine ⟨k + 1, ?_⟩
      simp only [List.dropWhile, beq_self_eq_true, List.replicate_succ, List.cons_append, List.cons.injEq, true_and]
      exact hk
    · have : (c == 48) = false := by simp [hc]
      exact ⟨0, by simp [List.dropWhile, this]⟩
theorem val_strip (l : List UInt8) : val (strip l) = val l := by
  obtain ⟨k, hk⟩ := strip_split l
  conv => rhs; rw [hk, val_append, val_zeros]
  omega
theorem dig_strip {l : List UInt8} (h : Dig l) : Dig (strip l) := by
  obtain ⟨k, hk⟩ := strip_split l
  rw [hk] at h
  exact h.right

/-- one more, of digits: from the right, nines become noughts -/
def incR : List UInt8 → List UInt8
  | [] => [49]
  | c :: l => if c < 57 then (c + 1) :: l else 48 :: incR l
def inc (l : List UInt8) : List UInt8 := (incR l.reverse).reverse
theorem inc_snoc (l : List UInt8) (c : UInt8) : inc (l ++ [c]) = if c < 57 then l ++ [c + 1] else inc l ++ [48] := by
  unfold inc
  rw [List.reverse_append]
  simp only [List.reverse_cons, List.reverse_nil, List.nil_append, List.cons_append, incR]
  split
  · simp
  · simp
theorem inc_val {l : List UInt8} (h : Dig l) : Dig (inc l) ∧ val (inc l) = val l + 1 := by
  induction l using snocRec with
  | nil => exact ⟨by intro c hc; simp [inc, incR] at hc; subst hc; decide, rfl⟩
  | append_singleton l c ih =>
    have hc := h c (by simp)
    obtain ⟨i1, i2⟩ := ih h.left
    rw [inc_snoc]
    by_cases h57 : c < 57
    · rw [if_pos h57]
      have hlt : c.toNat < 57 := by rw [UInt8.lt_iff_toNat_lt] at h57; exact h57
      have e : (c + 1).toNat = c.toNat + 1 := by rw [UInt8.toNat_add]; show (c.toNat + 1) % 256 = _; omega
      refine ⟨h.left.append fun x hx => ?_, ?_⟩
      · simp only [List.mem_singleton] at hx; subst hx; omega
      · rw [val_snoc, val_snoc, e]; omega
    · rw [if_neg h57]
      have hge : 57 ≤ c.toNat := by rw [UInt8.lt_iff_toNat_lt] at h57; exact Nat.not_lt.1 h57
      refine ⟨i1.append (dig_zeros 1), ?_⟩
      rw [val_snoc, val_snoc, i2]
      show 10 * (val l + 1) + 0 = _
      omega

/-- noughts ahead until there are more than n -/
def padTo (n : Nat) (l : List UInt8) : List UInt8 := List.replicate (n + 1 - l.length) 48 ++ l
theorem padTo_len (n : Nat) (l : List UInt8) : n < (padTo n l).length := by unfold padTo; rw [List.length_append, List.length_replicate]; omega
theorem val_pad (n : Nat) (l : List UInt8) : val (padTo n l) = val l := by unfold padTo; rw [val_append, val_zeros]; omega
theorem dig_pad {n : Nat} {l : List UInt8} (h : Dig l) : Dig (padTo n l) := (dig_zeros _).append h

/-- digits without the last n, halves up -/
def cutR (l : List UInt8) (n : Nat) : List UInt8 :=
  if n = 0 then padTo n l else if 53 ≤ (padTo n l).getD ((padTo n l).length - n) 0 then inc ((padTo n l).take ((padTo n l).length - n)) else (padTo n l).take ((padTo n l).length - n)
theorem cutR_val {l : List UInt8} (h : Dig l) (n : Nat) (hn : 0 < n) : Dig (cutR l n) ∧ val (cutR l n) = val l / 10 ^ n + if 10 ^ n ≤ 2 * (val l % 10 ^ n) then 1 else 0 := by
  unfold cutR
  rw [if_neg (by omega)]
  have hd := dig_pad (n := n) h
  have hv := val_pad n l
  have hlen := padTo_len n l
  generalize padTo n l = s at *
  obtain ⟨a, c, b, rfl, hb⟩ : ∃ a c b, s = a ++ c :: b ∧ b.length + 1 = n := by
    refine ⟨s.take (s.length - n), s[s.length - n]'(by omega), s.drop (s.length - n + 1), ?_, by rw [List.length_drop]; omega⟩
    rw [← List.drop_eq_getElem_cons]
    exact (List.take_append_drop _ _).symm
  have e1 : (a ++ c :: b).length - n = a.length := by rw [List.length_append, List.length_cons]; omega
  rw [e1]
  have e2 : (a ++ c :: b).take a.length = a := by simp
  have e3 : (a ++ c :: b).getD a.length 0 = c := by simp [List.getD_eq_getElem?_getD]
  rw [e2, e3]
  have hda : Dig a := hd.left
  have hdc := hd c (by simp)
  have hdb : Dig b := fun x hx => hd x (by simp [hx])
  have hvb := val_lt hdb
  have hval : val l = val a * 10 ^ n + ((c.toNat - 48) * 10 ^ b.length + val b) := by
    rw [← hv, val_append, show c :: b = [c] ++ b from rfl, val_append, List.length_append, List.length_singleton, Nat.add_comm 1, hb]
    have : val [c] = c.toNat - 48 := by show 10 * 0 + (c.toNat - 48) = _; omega
    rw [this]
  have hn' : 10 ^ n = 10 ^ b.length * 10 := by rw [← hb, Nat.pow_succ]
  rw [hval]
  have hlt : (c.toNat - 48) * 10 ^ b.length + val b < 10 ^ n := by
    have : (c.toNat - 48) * 10 ^ b.length ≤ 9 * 10 ^ b.length := Nat.mul_le_mul_right _ (by omega)
    omega
  have hdiv : (val a * 10 ^ n + ((c.toNat - 48) * 10 ^ b.length + val b)) / 10 ^ n = val a := by
    rw [Nat.mul_comm, Nat.mul_add_div (Nat.pow_pos (by omega)), Nat.div_eq_of_lt hlt]; omega
  have hmod : (val a * 10 ^ n + ((c.toNat - 48) * 10 ^ b.length + val b)) % 10 ^ n = (c.toNat - 48) * 10 ^ b.length + val b := by
    rw [Nat.mul_comm, Nat.mul_add_mod, Nat.mod_eq_of_lt hlt]
  rw [hdiv, hmod]
  have h53 : 53 ≤ c ↔ 10 ^ n ≤ 2 * ((c.toNat - 48) * 10 ^ b.length + val b) := by
    rw [UInt8.le_iff_toNat_le]
    show 53 ≤ c.toNat ↔ _
    rw [hn']
    constructor
    · intro h5
      have : 5 * 10 ^ b.length ≤ (c.toNat - 48) * 10 ^ b.length := Nat.mul_le_mul_right _ (by omega)
      omega
    · intro h5
      rcases Nat.lt_or_ge c.toNat 53 with h6 | h6
      · have : (c.toNat - 48) * 10 ^ b.length ≤ 4 * 10 ^ b.length := Nat.mul_le_mul_right _ (by omega)
        omega
      · exact h6
  by_cases h5 : 53 ≤ c
  · rw [if_pos h5, if_pos (h53.1 h5)]
    exact ⟨(inc_val hda).1, (inc_val hda).2⟩
  · rw [if_neg h5, if_neg (fun e => h5 (h53.2 e))]
    exact ⟨hda, rfl⟩

theorem rsize_eq (s u : Nat) : rsize s u = (s / u + if u ≤ 2 * (s % u) then 1 else 0) * u := by
  have h := Nat.div_add_mod s u
  unfold rsize
  rw [Nat.add_mul]
  have e : s - s % u = s / u * u := by rw [Nat.mul_comm]; omega
  rw [e]
  by_cases hc : u ≤ 2 * (s % u)
  · rw [if_pos hc, if_pos (by omega)]; omega
  · rw [if_neg hc, if_neg (by omega)]; omega

/-- the reference's Round is the program's -/
def roundR (a p : Int) : Int × Bool :=
  if 4 ≤ p then (a, true) else if p < -14 then (0, true) else valueR (decide (a < 0)) (strip (cutR (decDigits a.natAbs) (4 - p).toNat ++ List.replicate (4 - p).toNat 48))
theorem roundR_eq (a p : Int) : roundR a p = roundS a p := by
  unfold roundR roundS
  by_cases h4 : 4 ≤ p
  · rw [if_pos h4, if_neg (by omega), if_pos h4]
  · rw [if_neg h4, if_neg h4]
    by_cases h14 : p < -14
    · rw [if_pos h14, if_pos h14]
    · rw [if_neg h14, if_neg h14]
      obtain ⟨c1, c2⟩ := cutR_val (dig_dec a.natAbs) (4 - p).toNat (by omega)
      rw [valueR_val _ (dig_strip (c1.append (dig_zeros _))), val_strip, val_append, val_zeros, c2, val_dec, List.length_replicate, rsize_eq]
      rfl
end Tab
