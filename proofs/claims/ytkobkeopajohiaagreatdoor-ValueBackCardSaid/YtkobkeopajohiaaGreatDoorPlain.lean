/-
  PLAIN LAWS (no Go, no program): the document's numbers as Lean functions on whole numbers and lists of bytes: a number's text read back is that number; rounding to a multiple; the whole root bit by bit.
-/
import Derived.Lib.ItoaNum
import Derived.Lib.TrimByte
import Derived.Lib.SlTrimSet
import Derived.Lib.IndexMore
import Derived.Lib.Strings
namespace Tab
open Go.Lib

/-- what 'made' answers of a sign and a size -/
def made (minus : Bool) (lo : Nat) : Int × Bool := if 999999999999999999 < lo then (0, false) else (if minus then -(lo : Int) else lo, true)

/-- the places of a text: a full stop and digits -/
def frac (p : Nat) : List UInt8 := if p = 0 then [] else 46 :: trimRightB ((decDigits (10000 + p)).drop 1) 48

def text (a : Int) : List UInt8 := (if a < 0 then [45] else []) ++ (decDigits (a.natAbs / 10000) ++ frac (a.natAbs % 10000))

/-- the digits' loop of Parse -/
def digs : Nat → List UInt8 → Option Nat
  | n, [] => some n
  | n, c :: l => if c < 48 ∨ 57 < c ∨ 99999999999999999 < n then none else digs (10 * n + (c.toNat - 48)) l

def valOf (minus : Bool) : Option Nat → Int × Bool
  | none => (0, false)
  | some n => made minus n

def parseBody (minus : Bool) (body : List UInt8) : Int × Bool :=
  if (cut body [46]).1 = [] ∨ (cut body [46]).2.2 = true ∧ ((cut body [46]).2.1 = [] ∨ 4 < (cut body [46]).2.1.length) then (0, false)
  else valOf minus (digs 0 ((cut body [46]).1 ++ ((cut body [46]).2.1 ++ [48, 48, 48, 48].drop (cut body [46]).2.1.length)))

def parse (s : List UInt8) : Int × Bool := parseBody (hasPrefix s [45]) (trimPrefix s [45])

theorem digs_append (l m : List UInt8) : ∀ n k, digs n l = some k → digs n (l ++ m) = digs k m := by
  induction l with
  | nil => intro n k h; simp only [digs, Option.some.injEq] at h; subst h; rfl
  | cons c l ih =>
    intro n k h
    simp only [digs] at h
    simp only [List.cons_append, digs]
    by_cases hc : c < 48 ∨ 57 < c ∨ 99999999999999999 < n
    · rw [if_pos hc] at h; cases h
    · rw [if_neg hc] at h ⊢; exact ih _ _ h

theorem dig_byte (d : Nat) (h : d < 10) : (UInt8.ofNat (48 + d)).toNat = 48 + d := by
  rw [UInt8.toNat_ofNat']; omega

theorem dig_ok (d : Nat) (h : d < 10) : ¬ (UInt8.ofNat (48 + d) < 48 ∨ 57 < UInt8.ofNat (48 + d)) := by
  simp only [UInt8.lt_iff_toNat_lt, dig_byte d h]
  simp; omega

theorem digs_one (n d : Nat) (h : d < 10) (hn : n ≤ 99999999999999999) : digs n [UInt8.ofNat (48 + d)] = some (10 * n + d) := by
  have := dig_ok d h
  simp only [digs, dig_byte d h]
  rw [if_neg (by simp only [not_or] at this ⊢; exact ⟨this.1, this.2, by omega⟩)]
  congr 1; omega

theorem digs_dec (u : Nat) : u ≤ 999999999999999999 → digs 0 (decDigits u) = some u := by
  induction u using Nat.strongRecOn with
  | _ u ih =>
    intro h
    rw [decDigits]
    by_cases h10 : u < 10
    · rw [dif_pos h10, digs_one 0 u h10 (by omega)]; congr 1; omega
    · rw [dif_neg h10, digs_append _ _ _ _ (ih (u / 10) (by omega) (by omega)), digs_one _ _ (by omega) (by omega)]
      congr 1; omega

theorem digs4 (q a b c d : Nat) (ha : a < 10) (hb : b < 10) (hc : c < 10) (hd : d < 10) (hq : ((q * 10 + a) * 10 + b) * 10 + c ≤ 99999999999999999) :
    digs q [UInt8.ofNat (48 + a), UInt8.ofNat (48 + b), UInt8.ofNat (48 + c), UInt8.ofNat (48 + d)] = some ((((q * 10 + a) * 10 + b) * 10 + c) * 10 + d) := by
  have e : [UInt8.ofNat (48 + a), UInt8.ofNat (48 + b), UInt8.ofNat (48 + c), UInt8.ofNat (48 + d)] = [UInt8.ofNat (48 + a)] ++ ([UInt8.ofNat (48 + b)] ++ ([UInt8.ofNat (48 + c)] ++ [UInt8.ofNat (48 + d)])) := rfl
  rw [e, digs_append _ _ _ _ (digs_one q a ha (by omega)), digs_append _ _ _ _ (digs_one _ b hb (by omega)), digs_append _ _ _ _ (digs_one _ c hc (by omega)), digs_one _ d hd (by omega)]
  congr 1; omega

/-- a number of five digits, its last four -/
theorem dec5 (p : Nat) (h : p < 10000) : (decDigits (10000 + p)).drop 1 = [UInt8.ofNat (48 + p / 1000), UInt8.ofNat (48 + p / 100 % 10), UInt8.ofNat (48 + p / 10 % 10), UInt8.ofNat (48 + p % 10)] := by
  rw [decDigits, dif_neg (by omega), decDigits, dif_neg (by omega), decDigits, dif_neg (by omega), decDigits, dif_neg (by omega), decDigits, dif_pos (by omega)]
  simp only [List.cons_append, List.nil_append, List.drop_succ_cons, List.drop_zero, List.cons.injEq, and_true]
  refine ⟨?_, ?_, ?_, ?_⟩ <;> (congr 2; omega)

/-- the digits of decDigits are digits -/
theorem dec_mem (u : Nat) : ∀ c ∈ decDigits u, 48 ≤ c.toNat ∧ c.toNat ≤ 57 := by
  induction u using Nat.strongRecOn with
  | _ u ih =>
    rw [decDigits]
    by_cases h10 : u < 10
    · rw [dif_pos h10]
      intro c hc
      simp only [List.mem_singleton] at hc
      subst hc
      rw [dig_byte u h10]; omega
    · rw [dif_neg h10]
      intro c hc
      rcases List.mem_append.1 hc with hc | hc
      · exact ih _ (by omega) c hc
      · simp only [List.mem_singleton] at hc
        subst hc
        rw [dig_byte _ (by omega)]; omega

theorem dec_ne (u : Nat) : decDigits u ≠ [] := by
  rw [decDigits]
  split
  · simp
  · simp

theorem index_skip (l m : List UInt8) (h : ∀ c ∈ l, c ≠ 46) : index (l ++ 46 :: m) [46] = l.length := by
  induction l with
  | nil => simp [index, List.isPrefixOf]
  | cons c l ih =>
    have hc : c ≠ 46 := h c (by simp)
    have hi := ih fun x hx => h x (by simp [hx])
    simp only [List.cons_append, index]
    rw [hi]
    have : ([46] : List UInt8).isPrefixOf (c :: (l ++ 46 :: m)) = false := by
      simp only [List.isPrefixOf, Bool.and_true, beq_eq_false_iff_ne]; exact fun e => hc e.symm
    rw [this]
    simp

theorem index_none (l : List UInt8) (h : ∀ c ∈ l, c ≠ 46) : index l [46] = -1 := by
  induction l with
  | nil => simp [index]
  | cons c l ih =>
    have hc : c ≠ 46 := h c (by simp)
    have hi := ih fun x hx => h x (by simp [hx])
    simp only [index]
    rw [hi]
    have : ([46] : List UInt8).isPrefixOf (c :: l) = false := by
      simp only [List.isPrefixOf, Bool.and_true, beq_eq_false_iff_ne]; exact fun e => hc e.symm
    rw [this]
    simp

theorem cut_dot (l m : List UInt8) (h : ∀ c ∈ l, c ≠ 46) : cut (l ++ 46 :: m) [46] = (l, m, true) := by
  unfold cut
  rw [index_skip l m h, if_pos (by omega)]
  simp

theorem cut_nodot (l : List UInt8) (h : ∀ c ∈ l, c ≠ 46) : cut l [46] = (l, [], false) := by
  unfold cut
  rw [index_none l h, if_neg (by omega)]

theorem dec_nodot (u : Nat) : ∀ c ∈ decDigits u, c ≠ 46 := fun c hc e => by
  have := (dec_mem u c hc).1
  rw [e] at this
  simp at this

theorem dig_zero (d : Nat) (h : d < 10) : (UInt8.ofNat (48 + d) == 48) = decide (d = 0) := by
  rw [Bool.eq_iff_iff, beq_iff_eq, decide_eq_true_iff, ← UInt8.toNat_inj, dig_byte d h]
  simp

theorem frac_back (p : Nat) (h0 : p ≠ 0) (h : p < 10000) : ∃ l : List UInt8, trimRightB ((decDigits (10000 + p)).drop 1) 48 = l ∧ l ≠ [] ∧ l.length ≤ 4 ∧ l ++ [48, 48, 48, 48].drop l.length = (decDigits (10000 + p)).drop 1 := by
  refine ⟨_, rfl, ?_⟩
  rw [dec5 p h]
  have ha : p / 1000 < 10 := by omega
  have hb : p / 100 % 10 < 10 := by omega
  have hc : p / 10 % 10 < 10 := by omega
  have hd : p % 10 < 10 := by omega
  have hs : p = p / 1000 * 1000 + p / 100 % 10 * 100 + p / 10 % 10 * 10 + p % 10 := by omega
  generalize p / 1000 = a at *
  generalize p / 100 % 10 = b at *
  generalize p / 10 % 10 = c at *
  generalize p % 10 = d at *
  have za := dig_zero a ha
  have zb := dig_zero b hb
  have zc := dig_zero c hc
  have zd := dig_zero d hd
  unfold trimRightB
  simp only [List.reverse_cons, List.reverse_nil, List.nil_append, List.cons_append, List.dropWhile, za, zb, zc, zd]
  by_cases hd0 : d = 0
  · by_cases hc0 : c = 0
    · by_cases hb0 : b = 0
      · have ha0 : a ≠ 0 := by omega
        simp [hd0, hc0, hb0, ha0]
      · simp [hd0, hc0, hb0]
    · simp [hd0, hc0]
  · simp [hd0]

theorem parse_text (a : Int) (h : -999999999999999999 ≤ a ∧ a ≤ 999999999999999999) : parse (text a) = (a, true) := by
  have hu : a.natAbs ≤ 999999999999999999 := by omega
  have hmain : ∀ minus, parseBody minus (decDigits (a.natAbs / 10000) ++ frac (a.natAbs % 10000)) = made minus a.natAbs := by
    intro minus
    unfold parseBody
    generalize hq : a.natAbs / 10000 = q
    generalize hp : a.natAbs % 10000 = p
    have hpq : a.natAbs = q * 10000 + p := by omega
    have hp4 : p < 10000 := by omega
    have key : digs 0 (decDigits q ++ (decDigits (10000 + p)).drop 1) = some a.natAbs := by
      rw [digs_append _ _ _ _ (digs_dec q (by omega)), dec5 p hp4, digs4 _ _ _ _ _ (by omega) (by omega) (by omega) (by omega) (by omega)]
      congr 1; omega
    by_cases hp0 : p = 0
    · rw [show frac p = [] by simp [frac, hp0], List.append_nil, cut_nodot _ (dec_nodot q)]
      rw [if_neg (by simp [dec_ne q])]
      simp only [List.length_nil, List.drop_zero, List.nil_append]
      have e4 : (decDigits (10000 + p)).drop 1 = [48, 48, 48, 48] := by rw [dec5 p hp4, hp0]; rfl
      rw [e4] at key
      rw [key]
      rfl
    · obtain ⟨l, hl, hne, hlen, hback⟩ := frac_back p hp0 hp4
      rw [show frac p = 46 :: l by simp only [frac, if_neg hp0, hl], cut_dot _ _ (dec_nodot q)]
      rw [if_neg (by simp [dec_ne q, hne, hlen])]
      simp only
      rw [hback, key]
      rfl
  unfold parse text
  by_cases hneg : a < 0
  · rw [if_pos hneg]
    have e1 : hasPrefix ([45] ++ (decDigits (a.natAbs / 10000) ++ frac (a.natAbs % 10000))) [45] = true := by simp [hasPrefix, List.isPrefixOf]
    have e2 : trimPrefix ([45] ++ (decDigits (a.natAbs / 10000) ++ frac (a.natAbs % 10000))) [45] = decDigits (a.natAbs / 10000) ++ frac (a.natAbs % 10000) := by
      unfold trimPrefix; rw [e1]; simp
    rw [e1, e2, hmain]
    unfold made
    rw [if_neg (by omega), if_pos rfl]
    congr 1; omega
  · rw [if_neg hneg, List.nil_append]
    have e1 : hasPrefix (decDigits (a.natAbs / 10000) ++ frac (a.natAbs % 10000)) [45] = false := by
      cases hd : decDigits (a.natAbs / 10000) with
      | nil => exact absurd hd (dec_ne _)
      | cons c l =>
        have hc := dec_mem (a.natAbs / 10000) c (by rw [hd]; simp)
        have : c ≠ 45 := fun e => by rw [e] at hc; simp at hc
        simp [hasPrefix, List.isPrefixOf]
        exact fun e => this e.symm
    have e2 : trimPrefix (decDigits (a.natAbs / 10000) ++ frac (a.natAbs % 10000)) [45] = decDigits (a.natAbs / 10000) ++ frac (a.natAbs % 10000) := by
      unfold trimPrefix; rw [e1]; simp
    rw [e1, e2, hmain]
    unfold made
    rw [if_neg (by omega), if_neg (by simp)]
    congr 1; omega

def fit (c : Int) : Int × Bool := if -999999999999999999 ≤ c ∧ c ≤ 999999999999999999 then (c, true) else (0, false)
theorem made_fit (c : Int) : made (decide (c < 0)) c.natAbs = fit c := by
  unfold made fit
  by_cases h : c < 0
  · rw [decide_eq_true h]
    by_cases h2 : -999999999999999999 ≤ c
    · have e : ¬ 999999999999999999 < c.natAbs := by omega
      have e2 : -999999999999999999 ≤ c ∧ c ≤ 999999999999999999 := by omega
      simp only [if_neg e, if_pos e2, if_true, Prod.mk.injEq, and_true]; omega
    · have e : 999999999999999999 < c.natAbs := by omega
      have e2 : ¬ (-999999999999999999 ≤ c ∧ c ≤ 999999999999999999) := by omega
      simp only [if_pos e, if_neg e2]
  · rw [decide_eq_false h]
    by_cases h2 : c ≤ 999999999999999999
    · have e : ¬ 999999999999999999 < c.natAbs := by omega
      have e2 : -999999999999999999 ≤ c ∧ c ≤ 999999999999999999 := by omega
      simp only [if_neg e, if_pos e2, Bool.false_eq_true, if_false, Prod.mk.injEq, and_true]; omega
    · have e : 999999999999999999 < c.natAbs := by omega
      have e2 : ¬ (-999999999999999999 ≤ c ∧ c ≤ 999999999999999999) := by omega
      simp only [if_pos e, if_neg e2]

theorem fmod_of (a b : Int) (hb : b ≠ 0) : (a.tmod b = 0 → a.fmod b = 0) ∧ (a.tmod b ≠ 0 → ((a.tmod b < 0) ↔ (b < 0)) → a.fmod b = a.tmod b) ∧ (a.tmod b ≠ 0 → ¬ ((a.tmod b < 0) ↔ (b < 0)) → a.fmod b = a.tmod b + b) := by
  have h1 := @Int.fmod_eq_emod a b
  have h2 := @Int.tmod_eq_emod a b
  have h3 := Int.emod_nonneg a hb
  have h4 : a % b < b.natAbs := by
    rcases Int.lt_or_gt_of_ne hb with h | h
    · have := Int.emod_lt_of_pos a (show 0 < -b by omega); rw [Int.emod_neg] at this; omega
    · have := Int.emod_lt_of_pos a h; omega
  by_cases hd : b ∣ a
  · have := Int.emod_eq_zero_of_dvd hd
    simp [hd] at h1 h2
    omega
  · have : a % b ≠ 0 := fun e => hd (Int.dvd_of_emod_eq_zero e)
    simp [hd] at h1 h2
    split at h1 <;> split at h2 <;> omega
theorem tmod_bd (a b : Int) (hb : b ≠ 0) (h : -999999999999999999 ≤ b ∧ b ≤ 999999999999999999) : -999999999999999999 ≤ a.tmod b ∧ a.tmod b ≤ 999999999999999999 := by
  have h2 := @Int.tmod_eq_emod a b
  have h3 := Int.emod_nonneg a hb
  have h4 : a % b < b.natAbs := by
    rcases Int.lt_or_gt_of_ne hb with h | h
    · have := Int.emod_lt_of_pos a (show 0 < -b by omega); rw [Int.emod_neg] at this; omega
    · have := Int.emod_lt_of_pos a h; omega
  by_cases hd : b ∣ a
  · have := Int.emod_eq_zero_of_dvd hd
    simp [hd] at h2
    omega
  · simp [hd] at h2
    split at h2 <;> omega
/-- the size rounded to multiples of u -/
def rsize (s u : Nat) : Nat := s - s % u + (if u - s % u ≤ s % u then u else 0)

theorem rsize_mod (s u : Nat) : rsize s u % u = 0 := by
  have e : s - s % u = s / u * u := by have := Nat.div_add_mod s u; rw [Nat.mul_comm] at this; omega
  unfold rsize
  rw [e]
  split
  · rw [Nat.add_mod_right, Nat.mul_mod_left]
  · rw [Nat.add_zero, Nat.mul_mod_left]

theorem rsize_fix (s u : Nat) (hu : 0 < u) (h : s % u = 0) : rsize s u = s := by
  unfold rsize
  rw [h, if_neg (by omega)]
  omega

theorem rsize_near (s u : Nat) (hu : 0 < u) : 2 * ((s : Int) - rsize s u).natAbs ≤ u := by
  have hm := Nat.mod_lt s hu
  have hl := Nat.mod_le s u
  unfold rsize
  split <;> omega

/-- the law of roots: bit by bit -/
def roots (N : Nat) : Nat → Nat → Nat
  | 0, r => r
  | k + 1, r => roots N k (if (r + 2 ^ k) * (r + 2 ^ k) ≤ N then r + 2 ^ k else r)

theorem roots_spec (N : Nat) : ∀ k r, r * r ≤ N → N < (r + 2 ^ k) * (r + 2 ^ k) → roots N k r * roots N k r ≤ N ∧ N < (roots N k r + 1) * (roots N k r + 1) := by
  intro k
  induction k with
  | zero => intro r h1 h2; exact ⟨h1, by simpa [roots] using h2⟩
  | succ k ih =>
    intro r h1 h2
    simp only [roots]
    by_cases h : (r + 2 ^ k) * (r + 2 ^ k) ≤ N
    · rw [if_pos h]
      refine ih _ h ?_
      rw [show r + 2 ^ k + 2 ^ k = r + 2 ^ (k + 1) by rw [Nat.pow_succ]; omega]
      exact h2
    · rw [if_neg h]
      exact ih _ h1 (by omega)


def roundS (a p : Int) : Int × Bool := if p < -14 then (0, true) else if 4 ≤ p then (a, true) else made (decide (a < 0)) (rsize a.natAbs (10 ^ (4 - p).toNat))
def truncS (a p : Int) : Int := if p < -14 then 0 else if 4 ≤ p then a else a - a.tmod ((10 ^ (4 - p).toNat : Nat) : Int)
/-- the whole root of a times 10000 -/
def sqrtS (a : Int) : Nat := roots (a.toNat * 10000) 38 0
theorem tmod_sub (a : Int) (u : Nat) : (0 ≤ a → 0 ≤ a.tmod u ∧ a.tmod u ≤ a) ∧ (a ≤ 0 → a ≤ a.tmod u ∧ a.tmod u ≤ 0) := by
  rcases a with n | n
  · have e : (Int.ofNat n).tmod (u : Int) = ((n % u : Nat) : Int) := rfl
    have := Nat.mod_le n u
    rw [e]
    constructor <;> intro h <;> simp at h ⊢ <;> omega
  · have e : (Int.negSucc n).tmod (u : Int) = -(((n + 1) % u : Nat) : Int) := rfl
    have := Nat.mod_le (n + 1) u
    rw [e]
    constructor <;> intro h <;> omega
theorem ten_pow_bd (n : Nat) (h : n ≤ 18) : 1 ≤ 10 ^ n ∧ 10 ^ n ≤ 1000000000000000000 :=
  ⟨Nat.pow_pos (by omega), Nat.le_trans (Nat.pow_le_pow_right (by omega) h) (by decide)⟩
theorem or_add (r k : Nat) (h : r % 2 ^ (k + 1) = 0) : r ||| 2 ^ k = r + 2 ^ k := by
  obtain ⟨q, rfl⟩ : ∃ q, r = 2 ^ (k + 1) * q := ⟨r / 2 ^ (k + 1), by have := Nat.div_add_mod r (2 ^ (k + 1)); omega⟩
  exact (Nat.two_pow_add_eq_or_of_lt (Nat.pow_lt_pow_right (by omega) (by omega)) q).symm
theorem roots_lt (N : Nat) : ∀ k r, roots N k r < r + 2 ^ k := by
  intro k
  induction k with
  | zero => intro r; simp [roots]
  | succ k ih =>
    intro r
    simp only [roots]
    rw [Nat.pow_succ]
    by_cases h : (r + 2 ^ k) * (r + 2 ^ k) ≤ N
    · rw [if_pos h]; have := ih (r + 2 ^ k); omega
    · rw [if_neg h]; have := ih r; omega
theorem sqrtS_spec (a : Int) (h0 : 0 ≤ a) (h1 : a ≤ 999999999999999999) : sqrtS a * sqrtS a ≤ a.toNat * 10000 ∧ a.toNat * 10000 < (sqrtS a + 1) * (sqrtS a + 1) := by
  unfold sqrtS
  refine roots_spec _ 38 0 (by omega) ?_
  have : a.toNat ≤ 999999999999999999 := by omega
  simp only [Nat.zero_add]
  have e : (2 ^ 38 * 2 ^ 38 : Nat) = 75557863725914323419136 := by decide
  omega

/-- the loop of Sqrt: behind the rounds at the bits from j on, r is what has been found -/
def SqInv (N j r R : Nat) : Prop := r % 2 ^ j = 0 ∧ r + 2 ^ j ≤ 274877906944 ∧ roots N j r = R
theorem sqInv_start (N : Nat) : SqInv N 38 0 (roots N 38 0) := ⟨rfl, by decide, rfl⟩
theorem sqInv_bit {N k r R : Nat} (h : SqInv N (k + 1) r R) : r ||| 2 ^ k = r + 2 ^ k := or_add r k h.1
theorem sqInv_yes {N k r R : Nat} (h : SqInv N (k + 1) r R) (hN : (r + 2 ^ k) * (r + 2 ^ k) ≤ N) : SqInv N k (r + 2 ^ k) R := by
  obtain ⟨h1, h2, h3⟩ := h
  rw [Nat.pow_succ] at h1 h2
  refine ⟨?_, by omega, ?_⟩
  · rw [Nat.add_mod_right]
    exact Nat.mod_eq_zero_of_dvd (Nat.dvd_trans (Nat.dvd_mul_right _ _) (Nat.dvd_of_mod_eq_zero h1))
  · simp only [roots] at h3
    rw [if_pos hN] at h3
    exact h3
theorem sqInv_no {N k r R : Nat} (h : SqInv N (k + 1) r R) (hN : ¬ (r + 2 ^ k) * (r + 2 ^ k) ≤ N) : SqInv N k r R := by
  obtain ⟨h1, h2, h3⟩ := h
  rw [Nat.pow_succ] at h1 h2
  refine ⟨?_, by omega, ?_⟩
  · exact Nat.mod_eq_zero_of_dvd (Nat.dvd_trans (Nat.dvd_mul_right _ _) (Nat.dvd_of_mod_eq_zero h1))
  · simp only [roots] at h3
    rw [if_neg hN] at h3
    exact h3
theorem sqInv_end {N r R : Nat} (h : SqInv N 0 r R) : r = R := h.2.2
theorem half_pow (k : Nat) : 2 ^ (k + 1) / 2 = 2 ^ k := by rw [Nat.pow_succ]; omega
/-- two numbers of 128 bits, held against each other part by part -/
theorem lex128 (a b h l hi lo : Nat) (ha : a = h * 18446744073709551616 + l) (hb : b = hi * 18446744073709551616 + lo) (hl : l < 18446744073709551616) (hlo : lo < 18446744073709551616) :
    a ≤ b ↔ h < hi ∨ h = hi ∧ l ≤ lo := by omega
end Tab
