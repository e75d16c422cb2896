/-
  PLAIN LAWS (no Go, no program): the document's numbers as Lean functions on whole numbers and lists of bytes: a number's text read back is that number; rounding to a multiple; the whole root bit by bit.
  PLAIN LAWS: a rounded number is near; a root's square isn't above; a number is Floor and Mod.
  PLAIN LAWS of lists of digits: what they come to, with noughts ahead, behind, cut, one more.
  PLAIN LAWS: lengths of digits that are cut; numbers cut off; the reference's remainder.
  PLAIN LAWS: a number's last four digits; a number with just so many places; the reference's reading of a text, sign by sign.
  PLAIN LAWS: products, quotients, powers and whole roots of numbers; by digits they come to the same.
  PLAIN LAWS: a number of two words by one of one word, half a word at a time.
-/
import Derived.Lib.ItoaNum
import Derived.Lib.TrimByte
import Derived.Lib.SlTrimSet
import Derived.Lib.IndexMore
import Derived.Lib.Strings
namespace Tab
open Go.Lib

/-- what 'made' answers of a sign and a size -/
def made (minus : Bool) (lo : Nat) : Int × Bool := if 999999999999999999 < lo then (0, false) else (if minus then -(lo : Int) else lo, true)

/-- the places of a text: a full stop and digits -/
def frac (p : Nat) : List UInt8 := if p = 0 then [] else 46 :: trimRightB ((decDigits (10000 + p)).drop 1) 48

def text (a : Int) : List UInt8 := (if a < 0 then [45] else []) ++ (decDigits (a.natAbs / 10000) ++ frac (a.natAbs % 10000))

/-- the digits' loop of Parse -/
def digs : Nat → List UInt8 → Option Nat
  | n, [] => some n
  | n, c :: l => if c < 48 ∨ 57 < c ∨ 99999999999999999 < n then none else digs (10 * n + (c.toNat - 48)) l

def valOf (minus : Bool) : Option Nat → Int × Bool
  | none => (0, false)
  | some n => made minus n

def parseBody (minus : Bool) (body : List UInt8) : Int × Bool :=
  if (cut body [46]).1 = [] ∨ (cut body [46]).2.2 = true ∧ ((cut body [46]).2.1 = [] ∨ 4 < (cut body [46]).2.1.length) then (0, false)
  else valOf minus (digs 0 ((cut body [46]).1 ++ ((cut body [46]).2.1 ++ [48, 48, 48, 48].drop (cut body [46]).2.1.length)))

def parse (s : List UInt8) : Int × Bool := parseBody (hasPrefix s [45]) (trimPrefix s [45])

theorem digs_append (l m : List UInt8) : ∀ n k, digs n l = some k → digs n (l ++ m) = digs k m := by
  induction l with
  | nil => intro n k h; simp only [digs, Option.some.injEq] at h; subst h; rfl
  | cons c l ih =>
    intro n k h
    simp only [digs] at h
    simp only [List.cons_append, digs]
    by_cases hc : c < 48 ∨ 57 < c ∨ 99999999999999999 < n
    · rw [if_pos hc] at h; cases h
    · rw [if_neg hc] at h ⊢; exact ih _ _ h

theorem dig_byte (d : Nat) (h : d < 10) : (UInt8.ofNat (48 + d)).toNat = 48 + d := by
  rw [UInt8.toNat_ofNat']; omega

theorem dig_ok (d : Nat) (h : d < 10) : ¬ (UInt8.ofNat (48 + d) < 48 ∨ 57 < UInt8.ofNat (48 + d)) := by
  simp only [UInt8.lt_iff_toNat_lt, dig_byte d h]
  simp; omega

theorem digs_one (n d : Nat) (h : d < 10) (hn : n ≤ 99999999999999999) : digs n [UInt8.ofNat (48 + d)] = some (10 * n + d) := by
  have := dig_ok d h
  simp only [digs, dig_byte d h]
  rw [if_neg (by simp only [not_or] at this ⊢; exact ⟨this.1, this.2, by omega⟩)]
  congr 1; omega

theorem digs_dec (u : Nat) : u ≤ 999999999999999999 → digs 0 (decDigits u) = some u := by
  induction u using Nat.strongRecOn with
  | _ u ih =>
    intro h
    rw [decDigits]
    by_cases h10 : u < 10
    · rw [dif_pos h10, digs_one 0 u h10 (by omega)]; congr 1; omega
    · rw [dif_neg h10, digs_append _ _ _ _ (ih (u / 10) (by omega) (by omega)), digs_one _ _ (by omega) (by omega)]
      congr 1; omega

theorem digs4 (q a b c d : Nat) (ha : a < 10) (hb : b < 10) (hc : c < 10) (hd : d < 10) (hq : ((q * 10 + a) * 10 + b) * 10 + c ≤ 99999999999999999) :
    digs q [UInt8.ofNat (48 + a), UInt8.ofNat (48 + b), UInt8.ofNat (48 + c), UInt8.ofNat (48 + d)] = some ((((q * 10 + a) * 10 + b) * 10 + c) * 10 + d) := by
  have e : [UInt8.ofNat (48 + a), UInt8.ofNat (48 + b), UInt8.ofNat (48 + c), UInt8.ofNat (48 + d)] = [UInt8.ofNat (48 + a)] ++ ([UInt8.ofNat (48 + b)] ++ ([UInt8.ofNat (48 + c)] ++ [UInt8.ofNat (48 + d)])) := rfl
  rw [e, digs_append _ _ _ _ (digs_one q a ha (by omega)), digs_append _ _ _ _ (digs_one _ b hb (by omega)), digs_append _ _ _ _ (digs_one _ c hc (by omega)), digs_one _ d hd (by omega)]
  congr 1; omega

/-- a number of five digits, its last four -/
theorem dec5 (p : Nat) (h : p < 10000) : (decDigits (10000 + p)).drop 1 = [UInt8.ofNat (48 + p / 1000), UInt8.ofNat (48 + p / 100 % 10), UInt8.ofNat (48 + p / 10 % 10), UInt8.ofNat (48 + p % 10)] := by
  rw [decDigits, dif_neg (by omega), decDigits, dif_neg (by omega), decDigits, dif_neg (by omega), decDigits, dif_neg (by omega), decDigits, dif_pos (by omega)]
  simp only [List.cons_append, List.nil_append, List.drop_succ_cons, List.drop_zero, List.cons.injEq, and_true]
  refine ⟨?_, ?_, ?_, ?_⟩ <;> (congr 2; omega)

/-- the digits of decDigits are digits -/
theorem dec_mem (u : Nat) : ∀ c ∈ decDigits u, 48 ≤ c.toNat ∧ c.toNat ≤ 57 := by
  induction u using Nat.strongRecOn with
  | _ u ih =>
    rw [decDigits]
    by_cases h10 : u < 10
    · rw [dif_pos h10]
      intro c hc
      simp only [List.mem_singleton] at hc
      subst hc
      rw [dig_byte u h10]; omega
    · rw [dif_neg h10]
      intro c hc
      rcases List.mem_append.1 hc with hc | hc
      · exact ih _ (by omega) c hc
      · simp only [List.mem_singleton] at hc
        subst hc
        rw [dig_byte _ (by omega)]; omega

theorem dec_ne (u : Nat) : decDigits u ≠ [] := by
  rw [decDigits]
  split
  · simp
  · simp

theorem index_skip (l m : List UInt8) (h : ∀ c ∈ l, c ≠ 46) : index (l ++ 46 :: m) [46] = l.length := by
  induction l with
  | nil => simp [index, List.isPrefixOf]
  | cons c l ih =>
    have hc : c ≠ 46 := h c (by simp)
    have hi := ih fun x hx => h x (by simp [hx])
    simp only [List.cons_append, index]
    rw [hi]
    have : ([46] : List UInt8).isPrefixOf (c :: (l ++ 46 :: m)) = false := by
      simp only [List.isPrefixOf, Bool.and_true, beq_eq_false_iff_ne]; exact fun e => hc e.symm
    rw [this]
    simp

theorem index_none (l : List UInt8) (h : ∀ c ∈ l, c ≠ 46) : index l [46] = -1 := by
  induction l with
  | nil => simp [index]
  | cons c l ih =>
    have hc : c ≠ 46 := h c (by simp)
    have hi := ih fun x hx => h x (by simp [hx])
    simp only [index]
    rw [hi]
    have : ([46] : List UInt8).isPrefixOf (c :: l) = false := by
      simp only [List.isPrefixOf, Bool.and_true, beq_eq_false_iff_ne]; exact fun e => hc e.symm
    rw [this]
    simp

theorem cut_dot (l m : List UInt8) (h : ∀ c ∈ l, c ≠ 46) : cut (l ++ 46 :: m) [46] = (l, m, true) := by
  unfold cut
  rw [index_skip l m h, if_pos (by omega)]
  simp

theorem cut_nodot (l : List UInt8) (h : ∀ c ∈ l, c ≠ 46) : cut l [46] = (l, [], false) := by
  unfold cut
  rw [index_none l h, if_neg (by omega)]

theorem dec_nodot (u : Nat) : ∀ c ∈ decDigits u, c ≠ 46 := fun c hc e => by
  have := (dec_mem u c hc).1
  rw [e] at this
  simp at this

theorem dig_zero (d : Nat) (h : d < 10) : (UInt8.ofNat (48 + d) == 48) = decide (d = 0) := by
  rw [Bool.eq_iff_iff, beq_iff_eq, decide_eq_true_iff, ← UInt8.toNat_inj, dig_byte d h]
  simp

theorem frac_back (p : Nat) (h0 : p ≠ 0) (h : p < 10000) : ∃ l : List UInt8, trimRightB ((decDigits (10000 + p)).drop 1) 48 = l ∧ l ≠ [] ∧ l.length ≤ 4 ∧ l ++ [48, 48, 48, 48].drop l.length = (decDigits (10000 + p)).drop 1 := by
  refine ⟨_, rfl, ?_⟩
  rw [dec5 p h]
  have ha : p / 1000 < 10 := by omega
  have hb : p / 100 % 10 < 10 := by omega
  have hc : p / 10 % 10 < 10 := by omega
  have hd : p % 10 < 10 := by omega
  have hs : p = p / 1000 * 1000 + p / 100 % 10 * 100 + p / 10 % 10 * 10 + p % 10 := by omega
  generalize p / 1000 = a at *
  generalize p / 100 % 10 = b at *
  generalize p / 10 % 10 = c at *
  generalize p % 10 = d at *
  have za := dig_zero a ha
  have zb := dig_zero b hb
  have zc := dig_zero c hc
  have zd := dig_zero d hd
  unfold trimRightB
  simp only [List.reverse_cons, List.reverse_nil, List.nil_append, List.cons_append, List.dropWhile, za, zb, zc, zd]
  by_cases hd0 : d = 0
  · by_cases hc0 : c = 0
    · by_cases hb0 : b = 0
      · have ha0 : a ≠ 0 := by omega
        simp [hd0, hc0, hb0, ha0]
      · simp [hd0, hc0, hb0]
    · simp [hd0, hc0]
  · simp [hd0]

theorem parse_text (a : Int) (h : -999999999999999999 ≤ a ∧ a ≤ 999999999999999999) : parse (text a) = (a, true) := by
  have hu : a.natAbs ≤ 999999999999999999 := by omega
  have hmain : ∀ minus, parseBody minus (decDigits (a.natAbs / 10000) ++ frac (a.natAbs % 10000)) = made minus a.natAbs := by
    intro minus
    unfold parseBody
    generalize hq : a.natAbs / 10000 = q
    generalize hp : a.natAbs % 10000 = p
    have hpq : a.natAbs = q * 10000 + p := by omega
    have hp4 : p < 10000 := by omega
    have key : digs 0 (decDigits q ++ (decDigits (10000 + p)).drop 1) = some a.natAbs := by
      rw [digs_append _ _ _ _ (digs_dec q (by omega)), dec5 p hp4, digs4 _ _ _ _ _ (by omega) (by omega) (by omega) (by omega) (by omega)]
      congr 1; omega
    by_cases hp0 : p = 0
    · rw [show frac p = [] by simp [frac, hp0], List.append_nil, cut_nodot _ (dec_nodot q)]
      rw [if_neg (by simp [dec_ne q])]
      simp only [List.length_nil, List.drop_zero, List.nil_append]
      have e4 : (decDigits (10000 + p)).drop 1 = [48, 48, 48, 48] := by rw [dec5 p hp4, hp0]; rfl
      rw [e4] at key
      rw [key]
      rfl
    · obtain ⟨l, hl, hne, hlen, hback⟩ := frac_back p hp0 hp4
      rw [show frac p = 46 :: l by simp only [frac, if_neg hp0, hl], cut_dot _ _ (dec_nodot q)]
      rw [if_neg (by simp [dec_ne q, hne, hlen])]
      simp only
      rw [hback, key]
      rfl
  unfold parse text
  by_cases hneg : a < 0
  · rw [if_pos hneg]
    have e1 : hasPrefix ([45] ++ (decDigits (a.natAbs / 10000) ++ frac (a.natAbs % 10000))) [45] = true := by simp [hasPrefix, List.isPrefixOf]
    have e2 : trimPrefix ([45] ++ (decDigits (a.natAbs / 10000) ++ frac (a.natAbs % 10000))) [45] = decDigits (a.natAbs / 10000) ++ frac (a.natAbs % 10000) := by
      unfold trimPrefix; rw [e1]; simp
    rw [e1, e2, hmain]
    unfold made
    rw [if_neg (by omega), if_pos rfl]
    congr 1; omega
  · rw [if_neg hneg, List.nil_append]
    have e1 : hasPrefix (decDigits (a.natAbs / 10000) ++ frac (a.natAbs % 10000)) [45] = false := by
      cases hd : decDigits (a.natAbs / 10000) with
      | nil => exact absurd hd (dec_ne _)
      | cons c l =>
        have hc := dec_mem (a.natAbs / 10000) c (by rw [hd]; simp)
        have : c ≠ 45 := fun e => by rw [e] at hc; simp at hc
        simp [hasPrefix, List.isPrefixOf]
        exact fun e => this e.symm
    have e2 : trimPrefix (decDigits (a.natAbs / 10000) ++ frac (a.natAbs % 10000)) [45] = decDigits (a.natAbs / 10000) ++ frac (a.natAbs % 10000) := by
      unfold trimPrefix; rw [e1]; simp
    rw [e1, e2, hmain]
    unfold made
    rw [if_neg (by omega), if_neg (by simp)]
    congr 1; omega

def fit (c : Int) : Int × Bool := if -999999999999999999 ≤ c ∧ c ≤ 999999999999999999 then (c, true) else (0, false)
theorem made_fit (c : Int) : made (decide (c < 0)) c.natAbs = fit c := by
  unfold made fit
  by_cases h : c < 0
  · rw [decide_eq_true h]
    by_cases h2 : -999999999999999999 ≤ c
    · have e : ¬ 999999999999999999 < c.natAbs := by omega
      have e2 : -999999999999999999 ≤ c ∧ c ≤ 999999999999999999 := by omega
      simp only [if_neg e, if_pos e2, if_true, Prod.mk.injEq, and_true]; omega
    · have e : 999999999999999999 < c.natAbs := by omega
      have e2 : ¬ (-999999999999999999 ≤ c ∧ c ≤ 999999999999999999) := by omega
      simp only [if_pos e, if_neg e2]
  · rw [decide_eq_false h]
    by_cases h2 : c ≤ 999999999999999999
    · have e : ¬ 999999999999999999 < c.natAbs := by omega
      have e2 : -999999999999999999 ≤ c ∧ c ≤ 999999999999999999 := by omega
      simp only [if_neg e, if_pos e2, Bool.false_eq_true, if_false, Prod.mk.injEq, and_true]; omega
    · have e : 999999999999999999 < c.natAbs := by omega
      have e2 : ¬ (-999999999999999999 ≤ c ∧ c ≤ 999999999999999999) := by omega
      simp only [if_pos e, if_neg e2]

theorem fmod_of (a b : Int) (hb : b ≠ 0) : (a.tmod b = 0 → a.fmod b = 0) ∧ (a.tmod b ≠ 0 → ((a.tmod b < 0) ↔ (b < 0)) → a.fmod b = a.tmod b) ∧ (a.tmod b ≠ 0 → ¬ ((a.tmod b < 0) ↔ (b < 0)) → a.fmod b = a.tmod b + b) := by
  have h1 := @Int.fmod_eq_emod a b
  have h2 := @Int.tmod_eq_emod a b
  have h3 := Int.emod_nonneg a hb
  have h4 : a % b < b.natAbs := by
    rcases Int.lt_or_gt_of_ne hb with h | h
    · have := Int.emod_lt_of_pos a (show 0 < -b by omega); rw [Int.emod_neg] at this; omega
    · have := Int.emod_lt_of_pos a h; omega
  by_cases hd : b ∣ a
  · have := Int.emod_eq_zero_of_dvd hd
    simp [hd] at h1 h2
    omega
  · have : a % b ≠ 0 := fun e => hd (Int.dvd_of_emod_eq_zero e)
    simp [hd] at h1 h2
    split at h1 <;> split at h2 <;> omega
theorem tmod_bd (a b : Int) (hb : b ≠ 0) (h : -999999999999999999 ≤ b ∧ b ≤ 999999999999999999) : -999999999999999999 ≤ a.tmod b ∧ a.tmod b ≤ 999999999999999999 := by
  have h2 := @Int.tmod_eq_emod a b
  have h3 := Int.emod_nonneg a hb
  have h4 : a % b < b.natAbs := by
    rcases Int.lt_or_gt_of_ne hb with h | h
    · have := Int.emod_lt_of_pos a (show 0 < -b by omega); rw [Int.emod_neg] at this; omega
    · have := Int.emod_lt_of_pos a h; omega
  by_cases hd : b ∣ a
  · have := Int.emod_eq_zero_of_dvd hd
    simp [hd] at h2
    omega
  · simp [hd] at h2
    split at h2 <;> omega
/-- the size rounded to multiples of u -/
def rsize (s u : Nat) : Nat := s - s % u + (if u - s % u ≤ s % u then u else 0)

theorem rsize_mod (s u : Nat) : rsize s u % u = 0 := by
  have e : s - s % u = s / u * u := by have := Nat.div_add_mod s u; rw [Nat.mul_comm] at this; omega
  unfold rsize
  rw [e]
  split
  · rw [Nat.add_mod_right, Nat.mul_mod_left]
  · rw [Nat.add_zero, Nat.mul_mod_left]

theorem rsize_fix (s u : Nat) (hu : 0 < u) (h : s % u = 0) : rsize s u = s := by
  unfold rsize
  rw [h, if_neg (by omega)]
  omega

theorem rsize_near (s u : Nat) (hu : 0 < u) : 2 * ((s : Int) - rsize s u).natAbs ≤ u := by
  have hm := Nat.mod_lt s hu
  have hl := Nat.mod_le s u
  unfold rsize
  split <;> omega

/-- the law of roots: bit by bit -/
def roots (N : Nat) : Nat → Nat → Nat
  | 0, r => r
  | k + 1, r => roots N k (if (r + 2 ^ k) * (r + 2 ^ k) ≤ N then r + 2 ^ k else r)

theorem roots_spec (N : Nat) : ∀ k r, r * r ≤ N → N < (r + 2 ^ k) * (r + 2 ^ k) → roots N k r * roots N k r ≤ N ∧ N < (roots N k r + 1) * (roots N k r + 1) := by
  intro k
  induction k with
  | zero => intro r h1 h2; exact ⟨h1, by simpa [roots] using h2⟩
  | succ k ih =>
    intro r h1 h2
    simp only [roots]
    by_cases h : (r + 2 ^ k) * (r + 2 ^ k) ≤ N
    · rw [if_pos h]
      refine ih _ h ?_
      rw [show r + 2 ^ k + 2 ^ k = r + 2 ^ (k + 1) by rw [Nat.pow_succ]; omega]
      exact h2
    · rw [if_neg h]
      exact ih _ h1 (by omega)


def roundS (a p : Int) : Int × Bool := if p < -14 then (0, true) else if 4 ≤ p then (a, true) else made (decide (a < 0)) (rsize a.natAbs (10 ^ (4 - p).toNat))
def truncS (a p : Int) : Int := if p < -14 then 0 else if 4 ≤ p then a else a - a.tmod ((10 ^ (4 - p).toNat : Nat) : Int)
/-- the whole root of a times 10000 -/
def sqrtS (a : Int) : Nat := roots (a.toNat * 10000) 38 0
theorem tmod_sub (a : Int) (u : Nat) : (0 ≤ a → 0 ≤ a.tmod u ∧ a.tmod u ≤ a) ∧ (a ≤ 0 → a ≤ a.tmod u ∧ a.tmod u ≤ 0) := by
  rcases a with n | n
  · have e : (Int.ofNat n).tmod (u : Int) = ((n % u : Nat) : Int) := rfl
    have := Nat.mod_le n u
    rw [e]
    constructor <;> intro h <;> simp at h ⊢ <;> omega
  · have e : (Int.negSucc n).tmod (u : Int) = -(((n + 1) % u : Nat) : Int) := rfl
    have := Nat.mod_le (n + 1) u
    rw [e]
    constructor <;> intro h <;> omega
theorem ten_pow_bd (n : Nat) (h : n ≤ 18) : 1 ≤ 10 ^ n ∧ 10 ^ n ≤ 1000000000000000000 :=
  ⟨Nat.pow_pos (by omega), Nat.le_trans (Nat.pow_le_pow_right (by omega) h) (by decide)⟩
theorem or_add (r k : Nat) (h : r % 2 ^ (k + 1) = 0) : r ||| 2 ^ k = r + 2 ^ k := by
  obtain ⟨q, rfl⟩ : ∃ q, r = 2 ^ (k + 1) * q := ⟨r / 2 ^ (k + 1), by have := Nat.div_add_mod r (2 ^ (k + 1)); omega⟩
  exact (Nat.two_pow_add_eq_or_of_lt (Nat.pow_lt_pow_right (by omega) (by omega)) q).symm
theorem roots_lt (N : Nat) : ∀ k r, roots N k r < r + 2 ^ k := by
  intro k
  induction k with
  | zero => intro r; simp [roots]
  | succ k ih =>
    intro r
    simp only [roots]
    rw [Nat.pow_succ]
    by_cases h : (r + 2 ^ k) * (r + 2 ^ k) ≤ N
    · rw [if_pos h]; have := ih (r + 2 ^ k); omega
    · rw [if_neg h]; have := ih r; omega
theorem sqrtS_spec (a : Int) (h0 : 0 ≤ a) (h1 : a ≤ 999999999999999999) : sqrtS a * sqrtS a ≤ a.toNat * 10000 ∧ a.toNat * 10000 < (sqrtS a + 1) * (sqrtS a + 1) := by
  unfold sqrtS
  refine roots_spec _ 38 0 (by omega) ?_
  have : a.toNat ≤ 999999999999999999 := by omega
  simp only [Nat.zero_add]
  have e : (2 ^ 38 * 2 ^ 38 : Nat) = 75557863725914323419136 := by decide
  omega

/-- the loop of Sqrt: behind the rounds at the bits from j on, r is what has been found -/
def SqInv (N j r R : Nat) : Prop := r % 2 ^ j = 0 ∧ r + 2 ^ j ≤ 274877906944 ∧ roots N j r = R
theorem sqInv_start (N : Nat) : SqInv N 38 0 (roots N 38 0) := ⟨rfl, by decide, rfl⟩
theorem sqInv_bit {N k r R : Nat} (h : SqInv N (k + 1) r R) : r ||| 2 ^ k = r + 2 ^ k := or_add r k h.1
theorem sqInv_yes {N k r R : Nat} (h : SqInv N (k + 1) r R) (hN : (r + 2 ^ k) * (r + 2 ^ k) ≤ N) : SqInv N k (r + 2 ^ k) R := by
  obtain ⟨h1, h2, h3⟩ := h
  rw [Nat.pow_succ] at h1 h2
  refine ⟨?_, by omega, ?_⟩
  · rw [Nat.add_mod_right]
    exact Nat.mod_eq_zero_of_dvd (Nat.dvd_trans (Nat.dvd_mul_right _ _) (Nat.dvd_of_mod_eq_zero h1))
  · simp only [roots] at h3
    rw [if_pos hN] at h3
    exact h3
theorem sqInv_no {N k r R : Nat} (h : SqInv N (k + 1) r R) (hN : ¬ (r + 2 ^ k) * (r + 2 ^ k) ≤ N) : SqInv N k r R := by
  obtain ⟨h1, h2, h3⟩ := h
  rw [Nat.pow_succ] at h1 h2
  refine ⟨?_, by omega, ?_⟩
  · exact Nat.mod_eq_zero_of_dvd (Nat.dvd_trans (Nat.dvd_mul_right _ _) (Nat.dvd_of_mod_eq_zero h1))
  · simp only [roots] at h3
    rw [if_neg hN] at h3
    exact h3
theorem sqInv_end {N r R : Nat} (h : SqInv N 0 r R) : r = R := h.2.2
theorem half_pow (k : Nat) : 2 ^ (k + 1) / 2 = 2 ^ k := by rw [Nat.pow_succ]; omega
/-- two numbers of 128 bits, held against each other part by part -/
theorem lex128 (a b h l hi lo : Nat) (ha : a = h * 18446744073709551616 + l) (hb : b = hi * 18446744073709551616 + lo) (hl : l < 18446744073709551616) (hlo : lo < 18446744073709551616) :
    a ≤ b ↔ h < hi ∨ h = hi ∧ l ≤ lo := by omega
end Tab
namespace Tab
open Go.Lib

theorem near_law (a p : Int) (ha : -999999999999999999 ≤ a ∧ a ≤ 999999999999999999) (hp : 0 ≤ p ∧ p ≤ 4) (r : Int) (h : roundS a p = (r, true)) :
    (-999999999999999999 ≤ r ∧ r ≤ 999999999999999999) ∧ roundS r p = (r, true) ∧ 2 * ((a - r).natAbs : Int) ≤ ((10 ^ (4 - p).toNat : Nat) : Int) ∧ r.tmod ((10 ^ (4 - p).toNat : Nat) : Int) = 0 := by
  by_cases h4 : 4 ≤ p
  · obtain rfl : p = 4 := by omega
    have e : roundS a 4 = (a, true) := rfl
    rw [e] at h
    obtain rfl : a = r := by simpa using h
    refine ⟨ha, rfl, ?_, ?_⟩
    · simp
    · exact Int.tmod_one a
  · have hu := ten_pow_bd (4 - p).toNat (by omega)
    unfold roundS at h ⊢
    rw [if_neg (by omega), if_neg h4] at h
    rw [if_neg (by omega), if_neg h4]
    generalize 10 ^ (4 - p).toNat = u at *
    have hm := rsize_mod a.natAbs u
    have hn := rsize_near a.natAbs u (by omega)
    generalize rsize a.natAbs u = s at *
    unfold made at h
    by_cases hs : 999999999999999999 < s
    · rw [if_pos hs] at h; simp at h
    · rw [if_neg hs] at h
      have hr : r.natAbs = s ∧ (0 ≤ a → r = s) ∧ (a < 0 → r = -(s : Int)) := by
        by_cases hneg : a < 0
        · simp [hneg] at h; omega
        · simp [hneg] at h; omega
      obtain ⟨hr1, hr2, hr3⟩ := hr
      refine ⟨by omega, ?_, ?_, ?_⟩
      · rw [hr1, rsize_fix s u (by omega) hm]
        unfold made
        rw [if_neg hs]
        by_cases hr0 : r < 0
        · simp [hr0]; omega
        · simp [hr0]; omega
      · by_cases hneg : a < 0
        · have := hr3 hneg; omega
        · have := hr2 (by omega); omega
      · have h1 : (r.tmod (u : Int)).natAbs = r.natAbs % u := by rw [Int.natAbs_tmod]; rfl
        rw [hr1, hm] at h1
        omega

theorem root_law (a : Int) (h0 : 0 ≤ a) (h1 : a ≤ 10000000000) :
    (sqrtS a : Int) ≤ 10000000 ∧ (sqrtS a : Int) * (sqrtS a : Int) ≤ a * 10000 ∧ a * 10000 < ((sqrtS a : Int) + 1) * ((sqrtS a : Int) + 1) := by
  obtain ⟨s1, s2⟩ := sqrtS_spec a h0 (by omega)
  generalize sqrtS a = r at *
  have hr : r ≤ 10000000 := by
    rcases Nat.lt_or_ge 10000000 r with h | h
    · have := Nat.mul_le_mul (show 10000001 ≤ r by omega) (show 10000001 ≤ r by omega)
      omega
    · exact h
  refine ⟨by omega, ?_, ?_⟩
  · have : ((r * r : Nat) : Int) ≤ ((a.toNat * 10000 : Nat) : Int) := Int.ofNat_le.2 s1
    have e : ((r * r : Nat) : Int) = (r : Int) * (r : Int) := Int.natCast_mul r r
    rw [e] at this
    omega
  · have : ((a.toNat * 10000 : Nat) : Int) < (((r + 1) * (r + 1) : Nat) : Int) := Int.ofNat_lt.2 s2
    have e : (((r + 1) * (r + 1) : Nat) : Int) = ((r : Int) + 1) * ((r : Int) + 1) := by rw [Int.natCast_mul]; rfl
    rw [e] at this
    omega

theorem neg_mod (a s : Int) (hs : 0 < s) : (-a) % s = if a % s = 0 then 0 else s - a % s := by
  have h1 := Int.emod_nonneg a (show s ≠ 0 by omega)
  have h2 := Int.emod_lt_of_pos a hs
  have h3 := Int.mul_ediv_add_emod a s
  split
  · rename_i h
    exact Int.emod_eq_zero_of_dvd ((Int.dvd_neg).2 (Int.dvd_of_emod_eq_zero h))
  · have e : -a = (s - a % s) + s * (-(a / s) - 1) := by
      rw [Int.mul_sub, Int.mul_neg, Int.mul_one]; omega
    rw [e, Int.add_mul_emod_self_left]
    exact Int.emod_eq_of_lt (by omega) (by omega)

theorem parts_law (a s : Int) (ha : -999999999999999999 ≤ a ∧ a ≤ 999999999999999999) (hs : 0 < s ∧ s ≤ 999999999999999999) :
    ((fit (a - a % s)).2 = false → a < 0) ∧
    ((fit (a - a % s)).2 = true → (fit (a - a % s)).1 + a % s = a ∧
      ((fit (-a - (-a) % s)).2 = true → (a % s = 0 → -(fit (-a - (-a) % s)).1 = a) ∧ (a % s ≠ 0 → -(fit (-a - (-a) % s)).1 = (fit (a - a % s)).1 + s))) := by
  obtain ⟨s0, s1⟩ := hs
  have h1 := Int.emod_nonneg a (show s ≠ 0 by omega)
  have h2 := Int.emod_lt_of_pos a s0
  have h4 := neg_mod a s s0
  generalize (-a) % s = k at *
  generalize a % s = m at *
  refine ⟨?_, ?_⟩
  · unfold fit
    split
    · intro h; simp at h
    · rename_i hn
      intro _
      omega
  · intro hf
    have e1 : (fit (a - m)).1 = a - m := by unfold fit at hf ⊢; split at hf <;> simp_all
    rw [e1]
    refine ⟨by omega, fun hc => ?_⟩
    have e2 : (fit (-a - k)).1 = -a - k := by unfold fit at hc ⊢; split at hc <;> simp_all
    rw [e2]
    refine ⟨fun hm => ?_, fun hm => ?_⟩
    · rw [if_pos hm] at h4; omega
    · rw [if_neg hm] at h4; omega
end Tab
namespace Tab
open Go.Lib

theorem snocRec {motive : List UInt8 → Prop} (nil : motive []) (append_singleton : ∀ (l : List UInt8) (c : UInt8), motive l → motive (l ++ [c])) (l : List UInt8) : motive l := by
  have h : ∀ m : List UInt8, motive m.reverse := by
    intro m
    induction m with
    | nil => exact nil
    | cons c m ih => rw [List.reverse_cons]; exact append_singleton _ c ih
  have := h l.reverse
  rwa [List.reverse_reverse] at this

def val (l : List UInt8) : Nat := l.foldl (fun n c => 10 * n + (c.toNat - 48)) 0
def Dig (l : List UInt8) : Prop := ∀ c ∈ l, 48 ≤ c.toNat ∧ c.toNat ≤ 57

theorem val_nil : val [] = 0 := rfl
theorem val_snoc (l : List UInt8) (c : UInt8) : val (l ++ [c]) = 10 * val l + (c.toNat - 48) := by simp [val, List.foldl_append]
theorem Dig.left {l m : List UInt8} (h : Dig (l ++ m)) : Dig l := fun c hc => h c (by simp [hc])
theorem Dig.right {l m : List UInt8} (h : Dig (l ++ m)) : Dig m := fun c hc => h c (by simp [hc])
theorem Dig.append {l m : List UInt8} (h : Dig l) (h' : Dig m) : Dig (l ++ m) := fun c hc => by
  rcases List.mem_append.1 hc with h1 | h1
  · exact h c h1
  · exact h' c h1
theorem dig_dec (n : Nat) : Dig (decDigits n) := dec_mem n
theorem dig_zeros (k : Nat) : Dig (List.replicate k 48) := fun c hc => by rw [(List.mem_replicate.1 hc).2]; decide
theorem val_append (l m : List UInt8) : val (l ++ m) = val l * 10 ^ m.length + val m := by
  induction m using snocRec with
  | nil => simp [val_nil]
  | append_singleton m c ih =>
    rw [← List.append_assoc, val_snoc, ih, val_snoc, List.length_append, List.length_singleton, Nat.pow_succ, Nat.mul_add, ← Nat.mul_assoc, ← Nat.mul_assoc, Nat.mul_comm 10 (val l), Nat.mul_assoc (val l), Nat.mul_comm 10, ← Nat.mul_assoc]
    omega
theorem val_zeros (k : Nat) : val (List.replicate k 48) = 0 := by
  induction k with
  | zero => rfl
  | succ k ih => rw [List.replicate_succ', val_snoc, ih]; rfl
theorem val_lt {l : List UInt8} (h : Dig l) : val l < 10 ^ l.length := by
  induction l using snocRec with
  | nil => simp [val_nil]
  | append_singleton l c ih =>
    have := ih h.left
    have hc := h c (by simp)
    rw [val_snoc, List.length_append, List.length_singleton, Nat.pow_succ]
    omega
theorem val_dec (n : Nat) : val (decDigits n) = n := by
  induction n using Nat.strongRecOn with
  | _ n ih =>
    rw [decDigits]
    by_cases h : n < 10
    · rw [dif_pos h]
      show 10 * 0 + ((UInt8.ofNat (48 + n)).toNat - 48) = n
      rw [dig_byte n h]; omega
    · rw [dif_neg h, val_snoc, ih (n / 10) (by omega), dig_byte _ (by omega)]; omega

theorem digs_snoc (l : List UInt8) (c : UInt8) : ∀ n, digs n (l ++ [c]) = (digs n l).bind fun k => digs k [c] := by
  induction l with
  | nil => intro n; rfl
  | cons d l ih =>
    intro n
    simp only [List.cons_append, digs]
    split
    · rfl
    · rw [ih]; rfl
theorem digs_val {l : List UInt8} (h : Dig l) : digs 0 l = if val l ≤ 999999999999999999 then some (val l) else none := by
  induction l using snocRec with
  | nil => rfl
  | append_singleton l c ih =>
    have hc := h c (by simp)
    rw [digs_snoc, ih h.left, val_snoc]
    have hc' : ¬ (c < 48 ∨ 57 < c) := by
      simp only [UInt8.lt_iff_toNat_lt]
      show ¬ (c.toNat < 48 ∨ 57 < c.toNat)
      omega
    simp only [not_or] at hc'
    split
    · rename_i h1
      simp only [Option.bind_some, digs]
      by_cases h2 : 99999999999999999 < val l
      · rw [if_pos (.inr (.inr h2)), if_neg (by omega)]
      · rw [if_neg (by simp only [not_or]; exact ⟨hc'.1, hc'.2, h2⟩), if_pos (by omega)]
    · rename_i h1
      rw [if_neg (by omega)]; rfl

/-- the reference's reading of digits -/
def valueR (m : Bool) (l : List UInt8) : Int × Bool := valOf m (digs 0 l)
theorem valueR_val (m : Bool) {l : List UInt8} (h : Dig l) : valueR m l = made m (val l) := by
  unfold valueR
  rw [digs_val h]
  split
  · rfl
  · unfold made valOf; rw [if_pos (by omega)]

def strip (l : List UInt8) : List UInt8 := l.dropWhile (· == 48)
theorem strip_split (l : List UInt8) : ∃ k, l = List.replicate k 48 ++ strip l := by
  induction l with
  | nil => exact ⟨0, rfl⟩
  | cons c l ih =>
    obtain ⟨k, hk⟩ := ih
    unfold strip at hk ⊢
    by_cases hc : c = 48
    · subst hc
      refine ⟨k + 1, ?_⟩
      simp only [List.dropWhile, beq_self_eq_true, List.replicate_succ, List.cons_append, List.cons.injEq, true_and]
      exact hk
    · have : (c == 48) = false := by simp [hc]
      exact ⟨0, by simp [List.dropWhile, this]⟩
theorem val_strip (l : List UInt8) : val (strip l) = val l := by
  obtain ⟨k, hk⟩ := strip_split l
  conv => rhs; rw [hk, val_append, val_zeros]
  omega
theorem dig_strip {l : List UInt8} (h : Dig l) : Dig (strip l) := by
  obtain ⟨k, hk⟩ := strip_split l
  rw [hk] at h
  exact h.right

/-- one more, of digits: from the right, nines become noughts -/
def incR : List UInt8 → List UInt8
  | [] => [49]
  | c :: l => if c < 57 then (c + 1) :: l else 48 :: incR l
def inc (l : List UInt8) : List UInt8 := (incR l.reverse).reverse
theorem inc_snoc (l : List UInt8) (c : UInt8) : inc (l ++ [c]) = if c < 57 then l ++ [c + 1] else inc l ++ [48] := by
  unfold inc
  rw [List.reverse_append]
  simp only [List.reverse_cons, List.reverse_nil, List.nil_append, List.cons_append, incR]
  split
  · simp
  · simp
theorem inc_val {l : List UInt8} (h : Dig l) : Dig (inc l) ∧ val (inc l) = val l + 1 := by
  induction l using snocRec with
  | nil => exact ⟨by intro c hc; simp [inc, incR] at hc; subst hc; decide, rfl⟩
  | append_singleton l c ih =>
    have hc := h c (by simp)
    obtain ⟨i1, i2⟩ := ih h.left
    rw [inc_snoc]
    by_cases h57 : c < 57
    · rw [if_pos h57]
      have hlt : c.toNat < 57 := by rw [UInt8.lt_iff_toNat_lt] at h57; exact h57
      have e : (c + 1).toNat = c.toNat + 1 := by rw [UInt8.toNat_add]; show (c.toNat + 1) % 256 = _; omega
      refine ⟨h.left.append fun x hx => ?_, ?_⟩
      · simp only [List.mem_singleton] at hx; subst hx; omega
      · rw [val_snoc, val_snoc, e]; omega
    · rw [if_neg h57]
      have hge : 57 ≤ c.toNat := by rw [UInt8.lt_iff_toNat_lt] at h57; exact Nat.not_lt.1 h57
      refine ⟨i1.append (dig_zeros 1), ?_⟩
      rw [val_snoc, val_snoc, i2]
      show 10 * (val l + 1) + 0 = _
      omega

/-- noughts ahead until there are more than n -/
def padTo (n : Nat) (l : List UInt8) : List UInt8 := List.replicate (n + 1 - l.length) 48 ++ l
theorem padTo_len (n : Nat) (l : List UInt8) : n < (padTo n l).length := by unfold padTo; rw [List.length_append, List.length_replicate]; omega
theorem val_pad (n : Nat) (l : List UInt8) : val (padTo n l) = val l := by unfold padTo; rw [val_append, val_zeros]; omega
theorem dig_pad {n : Nat} {l : List UInt8} (h : Dig l) : Dig (padTo n l) := (dig_zeros _).append h

/-- digits without the last n, halves up -/
def cutR (l : List UInt8) (n : Nat) : List UInt8 :=
  if n = 0 then padTo n l else if 53 ≤ (padTo n l).getD ((padTo n l).length - n) 0 then inc ((padTo n l).take ((padTo n l).length - n)) else (padTo n l).take ((padTo n l).length - n)
theorem cutR_val {l : List UInt8} (h : Dig l) (n : Nat) (hn : 0 < n) : Dig (cutR l n) ∧ val (cutR l n) = val l / 10 ^ n + if 10 ^ n ≤ 2 * (val l % 10 ^ n) then 1 else 0 := by
  unfold cutR
  rw [if_neg (by omega)]
  have hd := dig_pad (n := n) h
  have hv := val_pad n l
  have hlen := padTo_len n l
  generalize padTo n l = s at *
  obtain ⟨a, c, b, rfl, hb⟩ : ∃ a c b, s = a ++ c :: b ∧ b.length + 1 = n := by
    refine ⟨s.take (s.length - n), s[s.length - n]'(by omega), s.drop (s.length - n + 1), ?_, by rw [List.length_drop]; omega⟩
    rw [← List.drop_eq_getElem_cons]
    exact (List.take_append_drop _ _).symm
  have e1 : (a ++ c :: b).length - n = a.length := by rw [List.length_append, List.length_cons]; omega
  rw [e1]
  have e2 : (a ++ c :: b).take a.length = a := by simp
  have e3 : (a ++ c :: b).getD a.length 0 = c := by simp [List.getD_eq_getElem?_getD]
  rw [e2, e3]
  have hda : Dig a := hd.left
  have hdc := hd c (by simp)
  have hdb : Dig b := fun x hx => hd x (by simp [hx])
  have hvb := val_lt hdb
  have hval : val l = val a * 10 ^ n + ((c.toNat - 48) * 10 ^ b.length + val b) := by
    rw [← hv, val_append, show c :: b = [c] ++ b from rfl, val_append, List.length_append, List.length_singleton, Nat.add_comm 1, hb]
    have : val [c] = c.toNat - 48 := by show 10 * 0 + (c.toNat - 48) = _; omega
    rw [this]
  have hn' : 10 ^ n = 10 ^ b.length * 10 := by rw [← hb, Nat.pow_succ]
  rw [hval]
  have hlt : (c.toNat - 48) * 10 ^ b.length + val b < 10 ^ n := by
    have : (c.toNat - 48) * 10 ^ b.length ≤ 9 * 10 ^ b.length := Nat.mul_le_mul_right _ (by omega)
    omega
  have hdiv : (val a * 10 ^ n + ((c.toNat - 48) * 10 ^ b.length + val b)) / 10 ^ n = val a := by
    rw [Nat.mul_comm, Nat.mul_add_div (Nat.pow_pos (by omega)), Nat.div_eq_of_lt hlt]; omega
  have hmod : (val a * 10 ^ n + ((c.toNat - 48) * 10 ^ b.length + val b)) % 10 ^ n = (c.toNat - 48) * 10 ^ b.length + val b := by
    rw [Nat.mul_comm, Nat.mul_add_mod, Nat.mod_eq_of_lt hlt]
  rw [hdiv, hmod]
  have h53 : 53 ≤ c ↔ 10 ^ n ≤ 2 * ((c.toNat - 48) * 10 ^ b.length + val b) := by
    rw [UInt8.le_iff_toNat_le]
    show 53 ≤ c.toNat ↔ _
    rw [hn']
    constructor
    · intro h5
      have : 5 * 10 ^ b.length ≤ (c.toNat - 48) * 10 ^ b.length := Nat.mul_le_mul_right _ (by omega)
      omega
    · intro h5
      rcases Nat.lt_or_ge c.toNat 53 with h6 | h6
      · have : (c.toNat - 48) * 10 ^ b.length ≤ 4 * 10 ^ b.length := Nat.mul_le_mul_right _ (by omega)
        omega
      · exact h6
  by_cases h5 : 53 ≤ c
  · rw [if_pos h5, if_pos (h53.1 h5)]
    exact ⟨(inc_val hda).1, (inc_val hda).2⟩
  · rw [if_neg h5, if_neg (fun e => h5 (h53.2 e))]
    exact ⟨hda, rfl⟩

theorem rsize_eq (s u : Nat) : rsize s u = (s / u + if u ≤ 2 * (s % u) then 1 else 0) * u := by
  have h := Nat.div_add_mod s u
  unfold rsize
  rw [Nat.add_mul]
  have e : s - s % u = s / u * u := by rw [Nat.mul_comm]; omega
  rw [e]
  by_cases hc : u ≤ 2 * (s % u)
  · rw [if_pos hc, if_pos (by omega)]; omega
  · rw [if_neg hc, if_neg (by omega)]; omega

/-- the reference's Round is the program's -/
def roundR (a p : Int) : Int × Bool :=
  if 4 ≤ p then (a, true) else if p < -14 then (0, true) else valueR (decide (a < 0)) (strip (cutR (decDigits a.natAbs) (4 - p).toNat ++ List.replicate (4 - p).toNat 48))
theorem roundR_eq (a p : Int) : roundR a p = roundS a p := by
  unfold roundR roundS
  by_cases h4 : 4 ≤ p
  · rw [if_pos h4, if_neg (by omega), if_pos h4]
  · rw [if_neg h4, if_neg h4]
    by_cases h14 : p < -14
    · rw [if_pos h14, if_pos h14]
    · rw [if_neg h14, if_neg h14]
      obtain ⟨c1, c2⟩ := cutR_val (dig_dec a.natAbs) (4 - p).toNat (by omega)
      rw [valueR_val _ (dig_strip (c1.append (dig_zeros _))), val_strip, val_append, val_zeros, c2, val_dec, List.length_replicate, rsize_eq]
      rfl
end Tab
namespace Tab
open Go.Lib
theorem incR_len (l : List UInt8) : (incR l).length ≤ l.length + 1 := by
  induction l with
  | nil => simp [incR]
  | cons c l ih => simp only [incR]; split <;> simp <;> omega
theorem inc_len (l : List UInt8) : (inc l).length ≤ l.length + 1 := by
  unfold inc
  have := incR_len l.reverse
  simpa using this
theorem cutR_len (l : List UInt8) (n : Nat) : (cutR l n).length ≤ l.length + n + 2 := by
  have hp : (padTo n l).length ≤ l.length + n + 1 := by unfold padTo; rw [List.length_append, List.length_replicate]; omega
  unfold cutR
  split
  · omega
  · split
    · have := inc_len ((padTo n l).take ((padTo n l).length - n))
      rw [List.length_take] at this
      omega
    · rw [List.length_take]; omega

/-- the reference's Trunc of digits: the last n become noughts -/
def truncR (a p : Int) : Int :=
  if 4 ≤ p then a else if p < -14 then 0 else
    if (decDigits a.natAbs).length ≤ (4 - p).toNat then 0 else (valueR (decide (a < 0)) ((decDigits a.natAbs).take ((decDigits a.natAbs).length - (4 - p).toNat) ++ List.replicate (4 - p).toNat 48)).1
theorem truncR_eq (a p : Int) (ha : -999999999999999999 ≤ a ∧ a ≤ 999999999999999999) : truncR a p = truncS a p := by
  unfold truncR truncS
  by_cases h4 : 4 ≤ p
  · rw [if_pos h4, if_neg (by omega), if_pos h4]
  · rw [if_neg h4, if_neg h4]
    by_cases h14 : p < -14
    · rw [if_pos h14, if_pos h14]
    · rw [if_neg h14, if_neg h14]
      obtain ⟨n, hn⟩ : ∃ n : Nat, (4 - p).toNat = n := ⟨_, rfl⟩
      rw [hn]
      have hu : 0 < 10 ^ n := Nat.pow_pos (by omega)
      have hd := dig_dec a.natAbs
      have hv := val_dec a.natAbs
      have hlt := val_lt hd
      rw [hv] at hlt
      generalize decDigits a.natAbs = s at *
      have ht := tmod_sub a (10 ^ n)
      have hta : (a.tmod ((10 ^ n : Nat) : Int)).natAbs = a.natAbs % 10 ^ n := by rw [Int.natAbs_tmod]; rfl
      by_cases hl : s.length ≤ n
      · rw [if_pos hl]
        have : a.natAbs < 10 ^ n := Nat.lt_of_lt_of_le hlt (Nat.pow_le_pow_right (by omega) hl)
        rw [Nat.mod_eq_of_lt this] at hta
        have h1 := ht.1
        have h2 := ht.2
        generalize a.tmod ((10 ^ n : Nat) : Int) = m at *
        rcases Int.le_total 0 a with h0 | h0
        · have := h1 h0; omega
        · have := h2 h0; omega
      · rw [if_neg hl]
        have hsplit := List.take_append_drop (s.length - n) s
        have hdt : Dig (s.take (s.length - n)) := by rw [← hsplit] at hd; exact hd.left
        have hdd : Dig (s.drop (s.length - n)) := by rw [← hsplit] at hd; exact hd.right
        have hlen : (s.drop (s.length - n)).length = n := by rw [List.length_drop]; omega
        have hvd := val_lt hdd
        rw [hlen] at hvd
        have hva : a.natAbs = val (s.take (s.length - n)) * 10 ^ n + val (s.drop (s.length - n)) := by
          have h := val_append (s.take (s.length - n)) (s.drop (s.length - n))
          rw [hsplit, hlen, hv] at h
          exact h
        rw [valueR_val _ (hdt.append (dig_zeros n)), val_append, val_zeros, List.length_replicate, Nat.add_zero]
        generalize val (s.take (s.length - n)) = x at *
        generalize val (s.drop (s.length - n)) = y at *
        have hm : a.natAbs % 10 ^ n = y := by rw [hva, Nat.mul_comm, Nat.mul_add_mod, Nat.mod_eq_of_lt hvd]
        rw [hm] at hta
        generalize 10 ^ n = u at *
        have h1 := ht.1
        have h2 := ht.2
        generalize a.tmod (u : Int) = m at *
        generalize hxu : x * u = z at *
        have hz : z ≤ 999999999999999999 := by omega
        unfold made
        rw [if_neg (by omega)]
        by_cases hneg : a < 0
        · rw [decide_eq_true hneg, if_pos rfl]
          have := h2 (by omega)
          show -(z : Int) = _
          omega
        · rw [decide_eq_false hneg]
          have := h1 (by omega)
          show (z : Int) = _
          omega

theorem rest_eq (a b : Int) : a - a.tdiv b * b = a.tmod b := by
  have := Int.tdiv_mul_add_tmod a b
  omega
theorem ceilR (a s : Int) (ha : -999999999999999999 ≤ a ∧ a ≤ 999999999999999999) (hs : 0 < s ∧ s ≤ 999999999999999999) :
    (a % s = 0 → (-(fit (-a - (-a) % s)).1 = a ∧ (fit (-a - (-a) % s)).2 = true)) ∧
    (a % s ≠ 0 → (-(fit (-a - (-a) % s)).1 = (fit (a - a % s + s)).1 ∧ (fit (-a - (-a) % s)).2 = (fit (a - a % s + s)).2)) := by
  have hk := neg_mod a s hs.1
  have h1 := Int.emod_nonneg a (show s ≠ 0 by omega)
  have h2 := Int.emod_lt_of_pos a hs.1
  generalize (-a) % s = k at *
  generalize a % s = m at *
  refine ⟨fun hm => ?_, fun hm => ?_⟩
  · rw [if_pos hm] at hk
    subst hk
    unfold fit
    rw [if_pos (by omega)]
    exact ⟨by simp, rfl⟩
  · rw [if_neg hm] at hk
    subst hk
    unfold fit
    by_cases hc : -999999999999999999 ≤ a - m + s ∧ a - m + s ≤ 999999999999999999
    · rw [if_pos (by omega), if_pos hc]
      exact ⟨by simp; omega, rfl⟩
    · rw [if_neg (by omega), if_neg hc]
      exact ⟨rfl, rfl⟩
end Tab
namespace Tab
open Go.Lib

def four (p : Nat) : List UInt8 := [UInt8.ofNat (48 + p / 1000), UInt8.ofNat (48 + p / 100 % 10), UInt8.ofNat (48 + p / 10 % 10), UInt8.ofNat (48 + p % 10)]
theorem four_eq (p : Nat) (h : p < 10000) : (decDigits (10000 + p)).drop 1 = four p := dec5 p h

theorem dec_big (n : Nat) (h : 10 ≤ n) : decDigits n = decDigits (n / 10) ++ [UInt8.ofNat (48 + n % 10)] := by
  rw [decDigits, dif_neg (by omega)]
theorem dec_small (n : Nat) (h : n < 10) : decDigits n = [UInt8.ofNat (48 + n)] := by rw [decDigits, dif_pos h]

theorem pad_four (n : Nat) : padTo 4 (decDigits n) = decDigits (n / 10000) ++ four (n % 10000) := by
  have f : four (n % 10000) = [UInt8.ofNat (48 + n / 1000 % 10), UInt8.ofNat (48 + n / 100 % 10), UInt8.ofNat (48 + n / 10 % 10), UInt8.ofNat (48 + n % 10)] := by
    unfold four
    simp only [List.cons.injEq, and_true]
    refine ⟨?_, ?_, ?_, ?_⟩ <;> (congr 2; omega)
  rw [f]
  by_cases h4 : 10000 ≤ n
  · have e : decDigits n = decDigits (n / 10000) ++ [UInt8.ofNat (48 + n / 1000 % 10), UInt8.ofNat (48 + n / 100 % 10), UInt8.ofNat (48 + n / 10 % 10), UInt8.ofNat (48 + n % 10)] := by
      rw [dec_big n (by omega), dec_big (n / 10) (by omega), dec_big (n / 10 / 10) (by omega), dec_big (n / 10 / 10 / 10) (by omega)]
      simp only [List.append_assoc, List.cons_append, List.nil_append]
      rw [show n / 10 / 10 / 10 / 10 = n / 10000 by omega, show n / 10 / 10 / 10 % 10 = n / 1000 % 10 by omega, show n / 10 / 10 % 10 = n / 100 % 10 by omega]
    rw [e]
    unfold padTo
    have hl : 0 < (decDigits (n / 10000)).length := by
      cases hd : decDigits (n / 10000) with
      | nil => exact absurd hd (dec_ne _)
      | cons c l => simp
    rw [show 4 + 1 - (decDigits (n / 10000) ++ [UInt8.ofNat (48 + n / 1000 % 10), UInt8.ofNat (48 + n / 100 % 10), UInt8.ofNat (48 + n / 10 % 10), UInt8.ofNat (48 + n % 10)]).length = 0 by rw [List.length_append]; simp only [List.length_cons, List.length_nil]; omega]
    rfl
  · have h0 : n / 10000 = 0 := by omega
    rw [h0, dec_small 0 (by omega)]
    by_cases h3 : 1000 ≤ n
    · rw [dec_big n (by omega), dec_big (n / 10) (by omega), dec_big (n / 10 / 10) (by omega), dec_small (n / 10 / 10 / 10) (by omega)]
      rw [show n / 10 / 10 / 10 = n / 1000 % 10 by omega, show n / 10 / 10 % 10 = n / 100 % 10 by omega]
      rfl
    · by_cases h2 : 100 ≤ n
      · rw [dec_big n (by omega), dec_big (n / 10) (by omega), dec_small (n / 10 / 10) (by omega)]
        rw [show n / 10 / 10 = n / 100 % 10 by omega, show n / 1000 % 10 = 0 by omega]
        rfl
      · by_cases h1 : 10 ≤ n
        · rw [dec_big n (by omega), dec_small (n / 10) (by omega)]
          rw [show n / 1000 % 10 = 0 by omega, show n / 100 % 10 = 0 by omega, show n / 10 = n / 10 % 10 by omega]
          simp [padTo]
          try rfl
        · rw [dec_small n (by omega)]
          rw [show n / 1000 % 10 = 0 by omega, show n / 100 % 10 = 0 by omega, show n / 10 % 10 = 0 by omega, show n % 10 = n by omega]
          rfl

/-- the digits of a number that is rounded already, with p places -/
def fixL (r : Int) (p : Nat) : List UInt8 := (if r < 0 then [45] else []) ++ (decDigits (r.natAbs / 10000) ++ (if 0 < p then 46 :: (four (r.natAbs % 10000)).take p else []))

/-- the reference's scan: the whole part, the places, the full stops -/
def scan : List UInt8 → List UInt8 → List UInt8 → Nat → Option (List UInt8 × List UInt8 × Nat)
  | [], a, b, d => some (a, b, d)
  | c :: l, a, b, d => if c = 46 then scan l a b (d + 1) else if c < 48 ∨ 57 < c then none else if d = 0 then scan l (a ++ [c]) b d else scan l a (b ++ [c]) d
def padR (l : List UInt8) : List UInt8 := l ++ List.replicate (4 - l.length) 48
def afterScan (m : Bool) : Option (List UInt8 × List UInt8 × Nat) → Int × Bool
  | none => (0, false)
  | some (a, b, d) => if 1 < d ∨ a = [] ∨ d = 1 ∧ b = [] ∨ 4 < b.length then (0, false) else valueR m (strip (a ++ padR b))
def parseR (s : List UInt8) : Int × Bool := if s.head? = some 45 then afterScan true (scan (s.drop 1) [] [] 0) else afterScan false (scan s [] [] 0)

theorem digs_bad {l : List UInt8} {c : UInt8} (hc : c ∈ l) (hb : c < 48 ∨ 57 < c) : ∀ n, digs n l = none := by
  induction l with
  | nil => cases hc
  | cons x l ih =>
    intro n
    simp only [digs]
    rcases List.mem_cons.1 hc with rfl | h
    · rw [if_pos (by rcases hb with h | h <;> simp [h])]
    · split
      · rfl
      · exact ih h _

/-- a body with a bad sign somewhere is no number -/
theorem body_bad (m : Bool) {l a b : List UInt8} {d : Bool} (hcut : cut l [46] = (a, b, d)) {c : UInt8} (hc : c ∈ a ++ b) (hb : c < 48 ∨ 57 < c) : parseBody m l = (0, false) := by
  unfold parseBody
  rw [hcut]
  split
  · rfl
  · simp only
    rw [digs_bad (c := c) (by rw [← List.append_assoc]; exact List.mem_append_left _ hc) hb]
    rfl
theorem scan_ok : ∀ (l a b : List UInt8) (d : Nat), d ≠ 0 → (∀ c ∈ l, ¬ (c < 48 ∨ 57 < c)) → scan l a b d = some (a, b ++ l, d) := by
  intro l
  induction l with
  | nil => intro a b d _ _; simp [scan]
  | cons c l ih =>
    intro a b d hd h
    have hc := h c (by simp)
    have h46 : c ≠ 46 := fun e => hc (.inl (by rw [e]; decide))
    simp only [scan]
    rw [if_neg h46, if_neg hc, if_neg hd, ih a (b ++ [c]) d hd (fun x hx => h x (by simp [hx])), List.append_assoc]
    rfl
theorem scan_ok0 : ∀ (l a : List UInt8), (∀ c ∈ l, ¬ (c < 48 ∨ 57 < c)) → ∀ r : List UInt8, scan (l ++ r) a [] 0 = scan r (a ++ l) [] 0 := by
  intro l
  induction l with
  | nil => intro a _ r; simp
  | cons c l ih =>
    intro a h r
    have hc := h c (by simp)
    have h46 : c ≠ 46 := fun e => hc (.inl (by rw [e]; decide))
    simp only [List.cons_append, scan]
    rw [if_neg h46, if_neg hc, if_pos trivial, ih (a ++ [c]) (fun x hx => h x (by simp [hx])) r, List.append_assoc]
    rfl
/-- behind a first full stop: a bad sign, or one more stop, and nothing comes of it -/
theorem scan_bad (m : Bool) : ∀ (l a b : List UInt8) (d : Nat), d ≠ 0 → (∃ c ∈ l, c < 48 ∨ 57 < c) → afterScan m (scan l a b d) = (0, false) := by
  intro l
  induction l with
  | nil => rintro a b d _ ⟨c, hc, _⟩; cases hc
  | cons c l ih =>
    rintro a b d hd ⟨x, hx, hb⟩
    simp only [scan]
    by_cases h46 : c = 46
    · rw [if_pos h46]
      by_cases hm : ∃ y ∈ l, y < 48 ∨ 57 < y
      · exact ih a b (d + 1) (by omega) hm
      · rw [scan_ok l a b (d + 1) (by omega) (fun y hy e => hm ⟨y, hy, e⟩)]
        simp only [afterScan]
        rw [if_pos (Or.inl (by omega))]
    · rw [if_neg h46]
      by_cases hbad : c < 48 ∨ 57 < c
      · rw [if_pos hbad]; rfl
      · rw [if_neg hbad, if_neg hd]
        rcases List.mem_cons.1 hx with rfl | h
        · exact absurd hb hbad
        · exact ih a (b ++ [c]) d hd ⟨x, h, hb⟩
theorem scan_bad0 (m : Bool) : ∀ (l a r : List UInt8), (∃ c ∈ l, (c < 48 ∨ 57 < c) ∧ c ≠ 46) → (∀ c ∈ l, c ≠ 46) → afterScan m (scan (l ++ r) a [] 0) = (0, false) := by
  intro l
  induction l with
  | nil => rintro a r ⟨c, hc, _⟩ _; cases hc
  | cons c l ih =>
    rintro a r ⟨x, hx, hb, _⟩ hn
    have h46 := hn c (by simp)
    simp only [List.cons_append, scan]
    rw [if_neg h46]
    by_cases hbad : c < 48 ∨ 57 < c
    · rw [if_pos hbad]; rfl
    · rw [if_neg hbad, if_pos trivial]
      rcases List.mem_cons.1 hx with rfl | h
      · exact absurd hb hbad
      · exact ih (a ++ [c]) r ⟨x, h, hb, hn x (by simp [h])⟩ (fun y hy => hn y (by simp [hy]))

theorem split_dot (l : List UInt8) : (∀ c ∈ l, c ≠ 46) ∨ ∃ a b, l = a ++ 46 :: b ∧ ∀ c ∈ a, c ≠ 46 := by
  induction l with
  | nil => exact .inl fun c hc => by cases hc
  | cons c l ih =>
    by_cases h : c = 46
    · exact .inr ⟨[], l, by rw [h]; rfl, fun x hx => by cases hx⟩
    · rcases ih with h1 | ⟨a, b, rfl, h1⟩
      · exact .inl fun x hx => by rcases List.mem_cons.1 hx with rfl | hx; exact h; exact h1 x hx
      · exact .inr ⟨c :: a, b, rfl, fun x hx => by rcases List.mem_cons.1 hx with rfl | hx; exact h; exact h1 x hx⟩

theorem dig_of_ok {l : List UInt8} (h : ∀ c ∈ l, ¬ (c < 48 ∨ 57 < c)) : Dig l := fun c hc => by
  have := h c hc
  simp only [UInt8.lt_iff_toNat_lt] at this
  have : ¬ (c.toNat < 48 ∨ 57 < c.toNat) := this
  omega

theorem scan_body (m : Bool) (l : List UInt8) : afterScan m (scan l [] [] 0) = parseBody m l := by
  rcases split_dot l with h46 | ⟨a, b, rfl, h46⟩
  · have hcut := cut_nodot l h46
    by_cases hbad : ∃ c ∈ l, c < 48 ∨ 57 < c
    · obtain ⟨c, hc, hb⟩ := hbad
      rw [body_bad m hcut (c := c) (by simpa using hc) hb]
      have := scan_bad0 m l [] [] ⟨c, hc, hb, h46 c hc⟩ h46
      rwa [List.append_nil] at this
    · have hok : ∀ c ∈ l, ¬ (c < 48 ∨ 57 < c) := fun c hc e => hbad ⟨c, hc, e⟩
      have hs := scan_ok0 l [] hok []
      rw [List.append_nil] at hs
      rw [hs]
      simp only [scan, List.nil_append, afterScan, parseBody, hcut]
      by_cases hl : l = []
      · rw [if_pos (.inr (.inl hl)), if_pos (.inl hl)]
      · rw [if_neg (by simp [hl]), if_neg (by simp [hl])]
        have hd := dig_of_ok hok
        rw [valueR_val _ (dig_strip (hd.append ?_)), val_strip, ← valueR_val m (l := l ++ padR []) (hd.append ?_)]
        · rfl
        · exact dig_zeros 4
        · exact dig_zeros 4
  · have hcut := cut_dot a b h46
    by_cases hbad : ∃ c ∈ a, c < 48 ∨ 57 < c
    · obtain ⟨c, hc, hb⟩ := hbad
      rw [body_bad m hcut (c := c) (by simp [hc]) hb]
      exact scan_bad0 m a [] _ ⟨c, hc, hb, h46 c hc⟩ h46
    · have hok : ∀ c ∈ a, ¬ (c < 48 ∨ 57 < c) := fun c hc e => hbad ⟨c, hc, e⟩
      rw [scan_ok0 a [] hok]
      simp only [scan, List.nil_append, if_true]
      by_cases hbad2 : ∃ c ∈ b, c < 48 ∨ 57 < c
      · obtain ⟨c, hc, hb⟩ := hbad2
        rw [body_bad m hcut (c := c) (by simp [hc]) hb]
        exact scan_bad m b a [] (0 + 1) (by omega) ⟨c, hc, hb⟩
      · have hok2 : ∀ c ∈ b, ¬ (c < 48 ∨ 57 < c) := fun c hc e => hbad2 ⟨c, hc, e⟩
        rw [scan_ok b a [] (0 + 1) (by omega) hok2]
        simp only [List.nil_append, afterScan, parseBody, hcut]
        by_cases he : a = [] ∨ b = [] ∨ 4 < b.length
        · rw [if_pos (by rcases he with h | h | h <;> simp [h]), if_pos (by rcases he with h | h | h <;> simp [h])]
        · simp only [not_or] at he
          rw [if_neg (by simp [he.1, he.2.1]; omega), if_neg (by simp [he.1, he.2.1]; omega)]
          have hd := dig_of_ok hok
          have hd2 := dig_of_ok hok2
          have hp : padR b = b ++ [48, 48, 48, 48].drop b.length := by
            unfold padR
            congr 1
            have h4 : b.length ≤ 4 := by omega
            generalize b.length = k at h4
            obtain rfl | rfl | rfl | rfl | rfl : k = 0 ∨ k = 1 ∨ k = 2 ∨ k = 3 ∨ k = 4 := by omega
            all_goals rfl
          have hdp : Dig (padR b) := by unfold padR; exact hd2.append (dig_zeros _)
          rw [valueR_val _ (dig_strip (hd.append hdp)), val_strip, ← valueR_val m (l := a ++ padR b) (hd.append hdp), hp]
          rfl

theorem parseR_eq (s : List UInt8) : parseR s = parse s := by
  unfold parseR parse
  cases s with
  | nil => simp [hasPrefix, trimPrefix, List.isPrefixOf, scan_body]
  | cons c l =>
    by_cases h : c = 45
    · subst h
      have e : hasPrefix (45 :: l) [45] = true := by simp [hasPrefix, List.isPrefixOf]
      rw [if_pos (by rfl), scan_body, e]
      unfold trimPrefix
      rw [e]; rfl
    · have e : hasPrefix (c :: l) [45] = false := by simp [hasPrefix, List.isPrefixOf]; exact fun e => h e.symm
      rw [if_neg (by simp [h]), scan_body, e]
      unfold trimPrefix
      rw [e]; rfl
end Tab
namespace Tab
open Go.Lib

/-- a quotient, halves up -/
def rq (P d : Nat) : Nat := P / d + if d ≤ 2 * (P % d) then 1 else 0
/-- the program's rounded quotient -/
def quotR (P d : Nat) : Nat × Bool :=
  if 999999999999999999 < P / d then (0, false)
  else if d - P % d ≤ P % d then (P / d + 1, decide (P / d + 1 ≤ 999999999999999999)) else (P / d, true)
theorem quotR_made (m : Bool) (P d : Nat) (hd : 0 < d) : (if (quotR P d).2 = true then made m (quotR P d).1 else (0, false)) = made m (rq P d) := by
  have hm := Nat.mod_lt P hd
  unfold quotR rq
  generalize P / d = q at *
  generalize P % d = r at *
  by_cases h : 999999999999999999 < q
  · rw [if_pos h]
    unfold made
    rw [if_pos (show 999999999999999999 < q + (if d ≤ 2 * r then 1 else 0) by omega)]
    rfl
  · rw [if_neg h]
    by_cases hr : d - r ≤ r
    · rw [if_pos hr, if_pos (show d ≤ 2 * r by omega)]
      by_cases h2 : q + 1 ≤ 999999999999999999
      · simp [h2]
      · have h3 : 999999999999999999 < q + 1 := by omega
        simp [h2, made, h3]
    · rw [if_neg hr, if_neg (show ¬ d ≤ 2 * r by omega)]
      simp
theorem quotR_le (P d : Nat) : (quotR P d).1 ≤ 1000000000000000000 := by
  unfold quotR
  split
  · exact Nat.zero_le _
  · split <;> simp only <;> omega
theorem made_bd (m : Bool) (n : Nat) : -999999999999999999 ≤ (made m n).1 ∧ (made m n).1 ≤ 999999999999999999 := by
  unfold made
  split
  · simp
  · cases m <;> simp <;> omega
def mulS (a b : Int) : Int × Bool := made (!decide (a < 0) == decide (b < 0)) (rq (a.natAbs * b.natAbs) 10000)
def divS (a b : Int) : Int × Bool := if b = 0 then (0, false) else made (!decide (a < 0) == decide (b < 0)) (rq (a.natAbs * 10000) b.natAbs)
theorem mulS_bd (a b : Int) : -999999999999999999 ≤ (mulS a b).1 ∧ (mulS a b).1 ≤ 999999999999999999 := made_bd _ _
theorem made_false {m : Bool} {n : Nat} (h : (made m n).2 = false) : made m n = (0, false) := by
  unfold made at h ⊢
  split
  · rfl
  · rename_i h2; rw [if_neg h2] at h; simp at h
theorem mulS_false {a b : Int} (h : (mulS a b).2 = false) : mulS a b = (0, false) := made_false h

/-- so many times -/
def powN : Nat → Int → Int → Int × Bool
  | 0, p, _ => (p, true)
  | m + 1, p, a => if (mulS p a).2 then powN m (mulS p a).1 a else (0, false)
def powS (a n : Int) : Int × Bool :=
  if n < -1000 ∨ 1000 < n then (0, false) else if (powN n.natAbs 10000 a).2 then (if n < 0 then divS 10000 (powN n.natAbs 10000 a).1 else powN n.natAbs 10000 a) else (0, false)
theorem powN_bd : ∀ (m : Nat) (p a : Int), (-999999999999999999 ≤ p ∧ p ≤ 999999999999999999) → -999999999999999999 ≤ (powN m p a).1 ∧ (powN m p a).1 ≤ 999999999999999999
  | 0, p, a, h => h
  | m + 1, p, a, h => by
    unfold powN
    split
    · exact powN_bd m _ a (mulS_bd p a)
    · simp

/-- the product by digits -/
theorem digits_mul (m : Bool) {t : List UInt8} (h : Dig t) : valueR m (strip (cutR t 4)) = made m (rq (val t) 10000) := by
  obtain ⟨h1, h2⟩ := cutR_val h 4 (by omega)
  rw [valueR_val _ (dig_strip h1), val_strip, h2]
  rfl
/-- the quotient by digits -/
theorem digits_div (m : Bool) {t : List UInt8} (h : Dig t) (P d r : Nat) (hr : r < d) (hP : P = val t * d + r) : valueR m (strip (if d - r ≤ r then inc t else t)) = made m (rq P d) := by
  have e1 : P / d = val t := by rw [hP, Nat.mul_comm, Nat.mul_add_div (by omega), Nat.div_eq_of_lt hr]; omega
  have e2 : P % d = r := by rw [hP, Nat.mul_comm, Nat.mul_add_mod, Nat.mod_eq_of_lt hr]
  unfold rq
  rw [e1, e2]
  obtain ⟨i1, i2⟩ := inc_val h
  by_cases hc : d - r ≤ r
  · rw [if_pos hc, if_pos (by omega), valueR_val _ (dig_strip i1), val_strip, i2]
  · rw [if_neg hc, if_neg (by omega), valueR_val _ (dig_strip h), val_strip, Nat.add_zero]

/-- what a row of numbers comes to, each ten times the next one's worth -/
def vn (o : List Nat) : Nat := o.foldl (fun n d => 10 * n + d) 0
theorem vn_foldl (o : List Nat) : ∀ a, o.foldl (fun n d => 10 * n + d) a = a * 10 ^ o.length + vn o := by
  induction o with
  | nil => intro a; simp [vn]
  | cons d o ih =>
    intro a
    unfold vn
    simp only [List.foldl_cons, List.length_cons]
    rw [ih (10 * a + d), ih (10 * 0 + d), Nat.pow_succ, Nat.add_mul, Nat.mul_comm 10 a, Nat.mul_assoc, Nat.mul_comm 10 (10 ^ o.length)]
    simp
    omega
theorem vn_cons (d : Nat) (o : List Nat) : vn (d :: o) = d * 10 ^ o.length + vn o := by
  have := vn_foldl o (10 * 0 + d)
  unfold vn
  simp only [List.foldl_cons]
  rw [this]
  simp [vn]
theorem vn_append (a b : List Nat) : vn (a ++ b) = vn a * 10 ^ b.length + vn b := by
  unfold vn
  rw [List.foldl_append, vn_foldl b]
  rfl
theorem vn_set : ∀ (o : List Nat) (j x : Nat), j < o.length → vn (o.set j x) + o.getD j 0 * 10 ^ (o.length - 1 - j) = vn o + x * 10 ^ (o.length - 1 - j)
  | [], j, x, h => by simp at h
  | d :: o, 0, x, _ => by
    simp only [List.set_cons_zero, vn_cons, List.getD_cons_zero, List.length_cons, Nat.add_sub_cancel, Nat.sub_zero]
    omega
  | d :: o, j + 1, x, h => by
    have := vn_set o j x (by simpa using h)
    simp only [List.set_cons_succ, vn_cons, List.getD_cons_succ, List.length_set, List.length_cons, Nat.add_sub_cancel]
    rw [show o.length - (j + 1) = o.length - 1 - j by omega]
    omega
theorem vn_zeros (n : Nat) : vn (List.replicate n 0) = 0 := by
  induction n with
  | zero => rfl
  | succ n ih => rw [List.replicate_succ, vn_cons, ih]; simp
/-- the row as digits -/
def digsOf (o : List Nat) : List UInt8 := o.map fun d => UInt8.ofNat (48 + d)
theorem digsOf_ok : ∀ (o : List Nat), (∀ d ∈ o, d < 10) → Dig (digsOf o) ∧ val (digsOf o) = vn o := by
  intro o h
  have hd : Dig (digsOf o) := fun c hc => by
    obtain ⟨d, hd, rfl⟩ := List.mem_map.1 hc
    have := h d hd
    rw [dig_byte d this]
    omega
  refine ⟨hd, ?_⟩
  clear hd
  induction o with
  | nil => rfl
  | cons d o ih =>
    have h0 := h d (by simp)
    have e : digsOf (d :: o) = [UInt8.ofNat (48 + d)] ++ digsOf o := rfl
    rw [e, val_append, ih (fun x hx => h x (by simp [hx])), vn_cons]
    have e2 : val [UInt8.ofNat (48 + d)] = d := by
      show 10 * 0 + ((UInt8.ofNat (48 + d)).toNat - 48) = d
      rw [dig_byte d h0]; omega
    rw [e2]
    simp [digsOf]
theorem val_cons (c : UInt8) (l : List UInt8) : val (c :: l) = (c.toNat - 48) * 10 ^ l.length + val l := by
  have e : c :: l = [c] ++ l := rfl
  rw [e, val_append]
  have : val [c] = c.toNat - 48 := by show 10 * 0 + (c.toNat - 48) = _; omega
  rw [this]
theorem val_drop (l : List UInt8) (k : Nat) (h : k < l.length) : val (l.drop k) = ((l.getD k 0).toNat - 48) * 10 ^ (l.length - 1 - k) + val (l.drop (k + 1)) := by
  rw [List.drop_eq_getElem_cons h, val_cons, List.length_drop, List.getD_eq_getElem?_getD, List.getElem?_eq_getElem h]
  rw [show l.length - (k + 1) = l.length - 1 - k by omega]
  rfl

/-- one product of two digits more -/
theorem times_step (x y : List UInt8) (o : List Nat) (i k V : Nat) (hn : o.length = x.length + y.length) (hi : i < x.length) (hk : k < y.length)
    (h : vn o = V + ((x.getD i 0).toNat - 48) * 10 ^ (x.length - 1 - i) * val (y.drop (k + 1))) :
    vn (o.set (i + k + 1) (o.getD (i + k + 1) 0 + ((x.getD i 0).toNat - 48) * ((y.getD k 0).toNat - 48))) = V + ((x.getD i 0).toNat - 48) * 10 ^ (x.length - 1 - i) * val (y.drop k) := by
  have hs := vn_set o (i + k + 1) (o.getD (i + k + 1) 0 + ((x.getD i 0).toNat - 48) * ((y.getD k 0).toNat - 48)) (by omega)
  rw [val_drop y k hk, Nat.mul_add]
  have e : o.length - 1 - (i + k + 1) = (x.length - 1 - i) + (y.length - 1 - k) := by omega
  rw [e, Nat.pow_add] at hs
  generalize (x.getD i 0).toNat - 48 = p at *
  generalize (y.getD k 0).toNat - 48 = q at *
  generalize 10 ^ (x.length - 1 - i) = A at *
  generalize 10 ^ (y.length - 1 - k) = B at *
  have e2 : p * A * (q * B) = p * q * (A * B) := by
    rw [Nat.mul_assoc, Nat.mul_assoc]; congr 1; rw [← Nat.mul_assoc, ← Nat.mul_assoc, Nat.mul_comm A q]
  rw [e2]
  rw [Nat.add_mul] at hs
  omega
theorem times_row (x : List UInt8) (i Y : Nat) (hi : i < x.length) : val (x.drop (i + 1)) * Y + ((x.getD i 0).toNat - 48) * 10 ^ (x.length - 1 - i) * Y = val (x.drop i) * Y := by
  rw [val_drop x i hi, Nat.add_mul]; omega
/-- a carry -/
theorem carry_step (o : List Nat) (i : Nat) (h0 : 0 < i) (hi : i < o.length) :
    vn ((o.set (i - 1) (o.getD (i - 1) 0 + o.getD i 0 / 10)).set i (o.getD i 0 % 10)) = vn o := by
  have h1 := vn_set o (i - 1) (o.getD (i - 1) 0 + o.getD i 0 / 10) (by omega)
  have h2 := vn_set (o.set (i - 1) (o.getD (i - 1) 0 + o.getD i 0 / 10)) i (o.getD i 0 % 10) (by rw [List.length_set]; exact hi)
  have e : (o.set (i - 1) (o.getD (i - 1) 0 + o.getD i 0 / 10)).getD i 0 = o.getD i 0 := by
    rw [List.getD_eq_getElem?_getD, List.getElem?_set_ne (by omega), ← List.getD_eq_getElem?_getD]
  rw [e, List.length_set] at h2
  have e2 : o.length - 1 - (i - 1) = (o.length - 1 - i) + 1 := by omega
  rw [e2, Nat.pow_succ] at h1
  have hd := Nat.div_add_mod (o.getD i 0) 10
  generalize 10 ^ (o.length - 1 - i) = W at *
  generalize o.getD i 0 = d at *
  generalize hq : d / 10 = q at *
  generalize hr : d % 10 = r at *
  have e3 : d * W = q * (W * 10) + r * W := by
    rw [← hd, Nat.add_mul, Nat.mul_comm 10 q, Nat.mul_assoc, Nat.mul_comm 10 W]
  rw [Nat.add_mul] at h1
  omega
/-- the first of a row that is less than ten to its length -/
theorem head_small (d : Nat) (o : List Nat) (h : vn (d :: o) < 10 ^ (o.length + 1)) : d < 10 := by
  rw [vn_cons, Nat.pow_succ] at h
  rcases Nat.lt_or_ge d 10 with h1 | h1
  · exact h1
  · have := Nat.mul_le_mul_right (10 ^ o.length) h1
    omega

theorem root_one {N r s : Nat} (h1 : r * r ≤ N) (h2 : N < (r + 1) * (r + 1)) (h3 : s * s ≤ N) (h4 : N < (s + 1) * (s + 1)) : r = s := by
  rcases Nat.lt_trichotomy r s with h | h | h
  · have := Nat.mul_le_mul (show r + 1 ≤ s by omega) (show r + 1 ≤ s by omega); omega
  · exact h
  · have := Nat.mul_le_mul (show s + 1 ≤ r by omega) (show s + 1 ≤ r by omega); omega
/-- digits without noughts ahead: the longer ones are more -/
theorem strip_head (l : List UInt8) (h : strip l ≠ []) : (strip l).getD 0 0 ≠ 48 := by
  intro e
  have := List.head?_dropWhile_not (fun c : UInt8 => c == 48) l
  cases hs : strip l with
  | nil => exact h hs
  | cons c m =>
    rw [hs] at e
    unfold strip at hs
    rw [hs] at this
    simp at this e
    exact this e
theorem val_ge {l : List UInt8} (h : Dig l) (h0 : l ≠ []) (h48 : l.getD 0 0 ≠ 48) : 10 ^ (l.length - 1) ≤ val l := by
  cases l with
  | nil => exact absurd rfl h0
  | cons c m =>
    have hc := h c (by simp)
    have : c.toNat ≠ 48 := fun e => h48 (by rw [← UInt8.toNat_inj]; exact e)
    rw [val_cons]
    simp only [List.length_cons, Nat.add_sub_cancel]
    have := Nat.mul_le_mul_right (10 ^ m.length) (show 1 ≤ c.toNat - 48 by omega)
    omega
theorem len_less {a b : List UInt8} (ha : Dig a) (hb : Dig b) (hb48 : b ≠ [] → b.getD 0 0 ≠ 48) (h : a.length < b.length) : val a < val b := by
  have h1 := val_lt ha
  have hne : b ≠ [] := fun e => by rw [e] at h; simp at h
  have h2 := val_ge hb hne (hb48 hne)
  have h3 : 10 ^ a.length ≤ 10 ^ (b.length - 1) := Nat.pow_le_pow_right (by omega) (by omega)
  omega
/-- of two rows of digits of one length the lesser one is the less -/
theorem val_inj : ∀ {a b : List UInt8}, Dig a → Dig b → a.length = b.length → val a = val b → a = b
  | [], [], _, _, _, _ => rfl
  | [], _ :: _, _, _, h, _ => by simp at h
  | _ :: _, [], _, _, h, _ => by simp at h
  | x :: a, y :: b, ha, hb, h, hv => by
    have hla : a.length = b.length := by simpa using h
    have h1 := val_lt (l := a) (fun c hc => ha c (by simp [hc]))
    have h2 := val_lt (l := b) (fun c hc => hb c (by simp [hc]))
    have hx := ha x (by simp)
    have hy := hb y (by simp)
    rw [val_cons, val_cons] at hv
    rw [hla] at h1 hv
    have e : x.toNat - 48 = y.toNat - 48 := by
      rcases Nat.lt_trichotomy (x.toNat - 48) (y.toNat - 48) with h | h | h
      · have := Nat.mul_le_mul_right (10 ^ b.length) (show x.toNat - 48 + 1 ≤ y.toNat - 48 by omega); rw [Nat.add_mul] at this; omega
      · exact h
      · have := Nat.mul_le_mul_right (10 ^ b.length) (show y.toNat - 48 + 1 ≤ x.toNat - 48 by omega); rw [Nat.add_mul] at this; omega
    rw [e] at hv
    have e2 := val_inj (a := a) (b := b) (fun c hc => ha c (by simp [hc])) (fun c hc => hb c (by simp [hc])) hla (by omega)
    have e3 : x = y := by rw [← UInt8.toNat_inj]; omega
    rw [e2, e3]
theorem bytesLess_val : ∀ {a b : List UInt8}, Dig a → Dig b → a.length = b.length → Go.Op.bytesLess a b = decide (val a < val b)
  | [], [], _, _, _ => by simp [Go.Op.bytesLess]
  | [], _ :: _, _, _, h => by simp at h
  | _ :: _, [], _, _, h => by simp at h
  | x :: a, y :: b, ha, hb, h => by
    have hla : a.length = b.length := by simpa using h
    have da : Dig a := fun c hc => ha c (by simp [hc])
    have db : Dig b := fun c hc => hb c (by simp [hc])
    have h1 := val_lt da
    have h2 := val_lt db
    have hx := ha x (by simp)
    have hy := hb y (by simp)
    rw [Go.Op.bytesLess, bytesLess_val da db hla, val_cons, val_cons]
    rw [hla] at h1 ⊢
    rw [Bool.eq_iff_iff]
    simp only [Bool.or_eq_true, Bool.and_eq_true, decide_eq_true_eq, beq_iff_eq, UInt8.lt_iff_toNat_lt]
    generalize val a = A at *
    generalize val b = C at *
    generalize hW : 10 ^ b.length = W at *
    rcases Nat.lt_trichotomy x.toNat y.toNat with h3 | h3 | h3
    · have := Nat.mul_le_mul_right W (show x.toNat - 48 + 1 ≤ y.toNat - 48 by omega)
      rw [Nat.add_mul] at this
      exact ⟨fun _ => by omega, fun _ => .inl h3⟩
    · have e : x = y := UInt8.toNat_inj.1 h3
      subst e
      exact ⟨fun h4 => by rcases h4 with h4 | h4 <;> omega, fun h4 => .inr ⟨rfl, by omega⟩⟩
    · have := Nat.mul_le_mul_right W (show y.toNat - 48 + 1 ≤ x.toNat - 48 by omega)
      rw [Nat.add_mul] at this
      refine ⟨fun h4 => ?_, fun h4 => by omega⟩
      rcases h4 with h4 | ⟨rfl, _⟩ <;> omega
theorem cmp_less : ∀ a b : List UInt8, compareBytes a b = if a = b then 0 else if Go.Op.bytesLess a b then -1 else 1
  | [], [] => by simp [compareBytes]
  | [], _ :: _ => by simp [compareBytes, Go.Op.bytesLess]
  | _ :: _, [] => by simp [compareBytes, Go.Op.bytesLess]
  | x :: a, y :: b => by
    rw [compareBytes, cmp_less a b, Go.Op.bytesLess]
    by_cases h1 : x < y
    · have : x ≠ y := fun e => by rw [e, UInt8.lt_iff_toNat_lt] at h1; omega
      simp [h1, this]
    · by_cases h2 : y < x
      · have : x ≠ y := fun e => by rw [e, UInt8.lt_iff_toNat_lt] at h2; omega
        simp [h1, h2, this]
      · have : x = y := by rw [UInt8.lt_iff_toNat_lt] at h1 h2; rw [← UInt8.toNat_inj]; omega
        subst this
        simp [h1]
/-- digits held against one another -/
theorem less_digs (a b : List UInt8) (ha : Dig a) (hb : Dig b) : (if (strip a).length = (strip b).length then Go.Op.bytesLess (strip a) (strip b) else decide ((strip a).length < (strip b).length)) = decide (val a < val b) := by
  have da := dig_strip ha
  have db := dig_strip hb
  rw [← val_strip a, ← val_strip b]
  by_cases h : (strip a).length = (strip b).length
  · rw [if_pos h, bytesLess_val da db h]
  · rw [if_neg h]
    by_cases h2 : (strip a).length < (strip b).length
    · rw [decide_eq_true h2, decide_eq_true (len_less da db (strip_head b) h2)]
    · have := len_less db da (strip_head a) (show (strip b).length < (strip a).length by omega)
      rw [decide_eq_false h2, decide_eq_false (by omega)]
end Tab
namespace Tab

/-- the first guess of half a word -/
theorem kn_start (u v y n1 n0 : Nat) (hy : y = n1 * 4294967296 + n0) (h0 : n0 < 4294967296) (h1 : 2147483648 ≤ n1) (hu : u < y) (hv : v < 4294967296) :
    (u * 4294967296 + v) / y ≤ u / n1 ∧ u / n1 ≤ 4294967297 ∧ u % n1 < n1 ∧ u / n1 * n1 + u % n1 = u ∧ (u * 4294967296 + v) / y < 4294967296 := by
  refine ⟨?_, ?_, Nat.mod_lt _ (by omega), ?_, ?_⟩
  · rw [Nat.le_div_iff_mul_le (by omega)]
    have h := Nat.div_mul_le_self (u * 4294967296 + v) y
    generalize (u * 4294967296 + v) / y = q at *
    rw [hy, Nat.mul_add, ← Nat.mul_assoc] at h
    generalize q * n1 = p at *
    omega
  · rw [Nat.le_iff_lt_add_one, Nat.div_lt_iff_lt_mul (by omega)]
    omega
  · have := Nat.div_add_mod u n1
    rw [Nat.mul_comm] at this
    exact this
  · rw [Nat.div_lt_iff_lt_mul (by omega)]
    omega
/-- the test of a guess -/
theorem kn_test (u v y n1 n0 h r : Nat) (hy : y = n1 * 4294967296 + n0) (hy0 : 0 < y) (hr : h * n1 + r = u) :
    (4294967296 * r + v < h * n0) ↔ (u * 4294967296 + v) / y < h := by
  rw [Nat.div_lt_iff_lt_mul hy0, hy, Nat.mul_add, ← Nat.mul_assoc]
  generalize h * n1 = p at *
  generalize h * n0 = q at *
  omega
/-- a guess whose rest is more than half a word is no more too great -/
theorem kn_break (u v y n1 n0 h r : Nat) (hy : y = n1 * 4294967296 + n0) (hy0 : 0 < y) (h0 : n0 < 4294967296) (hr : h * n1 + r = u) (hB : h ≤ 4294967296) (hrB : 4294967296 ≤ r) (hle : (u * 4294967296 + v) / y ≤ h) :
    (u * 4294967296 + v) / y = h := by
  refine Nat.le_antisymm hle ?_
  rw [Nat.le_div_iff_mul_le hy0, hy, Nat.mul_add, ← Nat.mul_assoc]
  have h2 : h * n0 ≤ 4294967296 * 4294967295 := Nat.mul_le_mul hB (by omega)
  generalize h * n1 = p at *
  generalize h * n0 = q at *
  omega
/-- the loop: the guess g with its rest r, the quotient q -/
def Kn (u v y n1 q h r : Nat) : Prop := q = (u * 4294967296 + v) / y ∧ q ≤ h ∧ h ≤ 4294967297 ∧ h * n1 + r = u ∧ q < 4294967296
theorem kn_less (u v y n1 n0 q h r : Nat) (hy : y = n1 * 4294967296 + n0) (hy0 : 0 < y) (hk : Kn u v y n1 q h r) (ht : 4294967296 ≤ h ∨ 4294967296 * r + v < h * n0) : q < h ∧ Kn u v y n1 q (h - 1) (r + n1) := by
  obtain ⟨h1, h2, h3, h4, h5⟩ := hk
  have hq : q < h := by
    rcases ht with ht | ht
    · omega
    · rw [h1]; exact (kn_test u v y n1 n0 h r hy hy0 h4).1 ht
  refine ⟨hq, h1, by omega, by omega, ?_, h5⟩
  obtain ⟨k, rfl⟩ : ∃ k, h = k + 1 := ⟨h - 1, by omega⟩
  rw [Nat.add_mul] at h4
  simp only [Nat.add_sub_cancel]
  omega
theorem kn_done (u v y n1 n0 q h r : Nat) (hy : y = n1 * 4294967296 + n0) (hy0 : 0 < y) (hk : Kn u v y n1 q h r) (ht : ¬ (4294967296 * r + v < h * n0)) : h = q := by
  obtain ⟨h1, h2, h3, h4, h5⟩ := hk
  rw [kn_test u v y n1 n0 h r hy hy0 h4, ← h1] at ht
  omega
theorem kn_end (u v y n1 n0 q h r : Nat) (hy : y = n1 * 4294967296 + n0) (hy0 : 0 < y) (h0 : n0 < 4294967296) (hk : Kn u v y n1 q h r) (hB : h ≤ 4294967296) (hrB : 4294967296 ≤ r) : h = q := by
  obtain ⟨h1, h2, h3, h4, h5⟩ := hk
  rw [h1]
  exact (kn_break u v y n1 n0 h r hy hy0 h0 h4 hB hrB (by omega)).symm
theorem kn_init (u v y n1 n0 : Nat) (hy : y = n1 * 4294967296 + n0) (h0 : n0 < 4294967296) (h1 : 2147483648 ≤ n1) (hu : u < y) (hv : v < 4294967296) : Kn u v y n1 ((u * 4294967296 + v) / y) (u / n1) (u % n1) := by
  obtain ⟨a, b, _, c, d⟩ := kn_start u v y n1 n0 hy h0 h1 hu hv
  exact ⟨rfl, a, b, c, d⟩
/-- the two halves, and what was shifted -/
theorem kn_join (B N D S y u v1 v0 q1 r1 q0 r0 : Nat) (hS : 0 < S) (hy : y = D * S) (hM : N * S = (u * B + v1) * B + v0)
    (h1 : u * B + v1 = q1 * y + r1) (h2 : r1 * B + v0 = q0 * y + r0) (h3 : r0 < y) : N / D = q1 * B + q0 ∧ N % D * S = r0 := by
  have e : N * S = (q1 * B + q0) * y + r0 := by
    rw [hM, h1, Nat.add_mul, Nat.add_mul, Nat.mul_right_comm q1 B y]
    omega
  have e1 : N * S / y = q1 * B + q0 := by
    rw [e, Nat.mul_comm _ y, Nat.mul_add_div (by omega), Nat.div_eq_of_lt h3]; omega
  have e2 : N * S % y = r0 := by rw [e, Nat.mul_comm _ y, Nat.mul_add_mod, Nat.mod_eq_of_lt h3]
  refine ⟨?_, ?_⟩
  · rw [← e1, hy, Nat.mul_div_mul_right _ _ hS]
  · rw [← e2, hy, Nat.mul_mod_mul_right]
/-- a number of two words, shifted -/
theorem kn_shift (hi lo D s : Nat) (hs : s ≤ 63) (hs1 : 1 ≤ s) (hh : hi < D) (hD : D * 2 ^ s < 18446744073709551616) (hl : lo < 18446744073709551616) :
    hi * 2 ^ s < 18446744073709551616 ∧ hi * 2 ^ s ||| lo / 2 ^ (64 - s) = hi * 2 ^ s + lo / 2 ^ (64 - s) ∧ hi * 2 ^ s + lo / 2 ^ (64 - s) < D * 2 ^ s ∧
    (hi * 18446744073709551616 + lo) * 2 ^ s = (hi * 2 ^ s + lo / 2 ^ (64 - s)) * 18446744073709551616 + lo * 2 ^ s % 18446744073709551616 := by
  have hT : 2 ^ (64 - s) * 2 ^ s = 18446744073709551616 := by rw [← Nat.pow_add, show 64 - s + s = 64 by omega]
  have hlt : lo / 2 ^ (64 - s) < 2 ^ s := by
    rw [Nat.div_lt_iff_lt_mul (Nat.pow_pos (by omega)), Nat.mul_comm, hT]; exact hl
  have hm : hi * 2 ^ s + 2 ^ s ≤ D * 2 ^ s := by rw [← Nat.succ_mul]; exact Nat.mul_le_mul_right _ hh
  have hor := Nat.two_pow_add_eq_or_of_lt hlt hi
  have e0 : hi * 2 ^ s < 18446744073709551616 ∧ hi * 2 ^ s + lo / 2 ^ (64 - s) < D * 2 ^ s := by
    clear hor hT
    generalize lo / 2 ^ (64 - s) = g at *
    generalize hi * 2 ^ s = d at *
    generalize D * 2 ^ s = e at *
    generalize 2 ^ s = f at *
    omega
  refine ⟨e0.1, ?_, e0.2, ?_⟩
  · have := Nat.two_pow_add_eq_or_of_lt hlt hi
    rw [Nat.mul_comm] at this
    exact this.symm
  · have hd := Nat.div_add_mod lo (2 ^ (64 - s))
    have hr := Nat.mod_lt lo (show 0 < 2 ^ (64 - s) from Nat.pow_pos (by omega))
    generalize lo / 2 ^ (64 - s) = a at *
    generalize lo % 2 ^ (64 - s) = b at *
    have e : lo * 2 ^ s = a * 18446744073709551616 + b * 2 ^ s := by
      rw [← hd, Nat.add_mul, Nat.mul_comm (2 ^ (64 - s)) a, Nat.mul_assoc, hT]
    have hb : b * 2 ^ s < 18446744073709551616 := by
      rw [← hT]; exact Nat.mul_lt_mul_of_pos_right hr (Nat.pow_pos (by omega))
    rw [e, Nat.add_mul, e, Nat.add_mul]
    generalize b * 2 ^ s = c at *
    rw [Nat.mul_assoc hi, Nat.mul_comm 18446744073709551616 (2 ^ s), ← Nat.mul_assoc]
    generalize hi * 2 ^ s = d at *
    omega
end Tab
