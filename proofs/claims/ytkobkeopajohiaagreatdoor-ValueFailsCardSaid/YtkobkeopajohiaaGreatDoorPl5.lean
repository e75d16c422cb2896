/-
  PLAIN LAWS: a number's last four digits; a number with just so many places; the reference's reading of a text, sign by sign.
-/
import Derived.Test.YtkobkeopajohiaaGreatDoorPl4
namespace Tab
open Go.Lib

def four (p : Nat) : List UInt8 := [UInt8.ofNat (48 + p / 1000), UInt8.ofNat (48 + p / 100 % 10), UInt8.ofNat (48 + p / 10 % 10), UInt8.ofNat (48 + p % 10)]
theorem four_eq (p : Nat) (h : p < 10000) : (decDigits (10000 + p)).drop 1 = four p := dec5 p h

theorem dec_big (n : Nat) (h : 10 ≤ n) : decDigits n = decDigits (n / 10) ++ [UInt8.ofNat (48 + n % 10)] := by
  rw [decDigits, dif_neg (by omega)]
theorem dec_small (n : Nat) (h : n < 10) : decDigits n = [UInt8.ofNat (48 + n)] := by rw [decDigits, dif_pos h]

theorem pad_four (n : Nat) : padTo 4 (decDigits n) = decDigits (n / 10000) ++ four (n % 10000) := by
  have f : four (n % 10000) = [UInt8.ofNat (48 + n / 1000 % 10), UInt8.ofNat (48 + n / 100 % 10), UInt8.ofNat (48 + n / 10 % 10), UInt8.ofNat (48 + n % 10)] := by
    unfold four
    simp only [List.cons.injEq, and_true]
    refine ⟨?_, ?_, ?_, ?_⟩ <;> (congr 2; omega)
  rw [f]
  by_cases h4 : 10000 ≤ n
  · have e : decDigits n = decDigits (n / 10000) ++ [UInt8.ofNat (48 + n / 1000 % 10), UInt8.ofNat (48 + n / 100 % 10), UInt8.ofNat (48 + n / 10 % 10), UInt8.ofNat (48 + n % 10)] := by
      rw [dec_big n (by omega), dec_big (n / 10) (by omega), dec_big (n / 10 / 10) (by omega), dec_big (n / 10 / 10 / 10) (by omega)]
      simp only [List.append_assoc, List.cons_append, List.nil_append]
      rw [show n / 10 / 10 / 10 / 10 = n / 10000 by omega, show n / 10 / 10 / 10 % 10 = n / 1000 % 10 by omega, show n / 10 / 10 % 10 = n / 100 % 10 by omega]
    rw [e]
    unfold padTo
    have hl : 0 < (decDigits (n / 10000)).length := by
      cases hd : decDigits (n / 10000) with
      | nil => exact absurd hd (dec_ne _)
      | cons c l => simp
    rw [show 4 + 1 - (decDigits (n / 10000) ++ [UInt8.ofNat (48 + n / 1000 % 10), UInt8.ofNat (48 + n / 100 % 10), UInt8.ofNat (48 + n / 10 % 10), UInt8.ofNat (48 + n % 10)]).length = 0 by rw [List.length_append]; simp only [List.length_cons, List.length_nil]; omega]
    rfl
  · have h0 : n / 10000 = 0 := by omega
    rw [h0, dec_small 0 (by omega)]
    by_cases h3 : 1000 ≤ n
    · rw [dec_big n (by omega), dec_big (n / 10) (by omega), dec_big (n / 10 / 10) (by omega), dec_small (n / 10 / 10 / 10) (by omega)]
      rw [show n / 10 / 10 / 10 = n / 1000 % 10 by omega, show n / 10 / 10 % 10 = n / 100 % 10 by omega]
      rfl
    · by_cases h2 : 100 ≤ n
      · rw [dec_big n (by omega), dec_big (n / 10) (by omega), dec_small (n / 10 / 10) (by omega)]
        rw [show n / 10 / 10 = n / 100 % 10 by omega, show n / 1000 % 10 = 0 by omega]
        rfl
      · by_cases h1 : 10 ≤ n
        · rw [dec_big n (by omega), dec_small (n / 10) (by omega)]
          rw [show n / 1000 % 10 = 0 by omega, show n / 100 % 10 = 0 by omega, show n / 10 = n / 10 % 10 by omega]
          simp [padTo]
          try rfl
        · rw [dec_small n (by omega)]
          rw [show n / 1000 % 10 = 0 by omega, show n / 100 % 10 = 0 by omega, show n / 10 % 10 = 0 by omega, show n % 10 = n by omega]
          rfl

/-- the digits of a number that is rounded already, with p places -/
def fixL (r : Int) (p : Nat) : List UInt8 := (if r < 0 then [45] else []) ++ (decDigits (r.natAbs / 10000) ++ (if 0 < p then 46 :: (four (r.natAbs % 10000)).take p else []))

/-- the reference's scan: the whole part, the places, the full stops -/
def scan : List UInt8 → List UInt8 → List UInt8 → Nat → Option (List UInt8 × List UInt8 × Nat)
  | [], a, b, d => some (a, b, d)
  | c :: l, a, b, d => if c = 46 then scan l a b (d + 1) else if c < 48 ∨ 57 < c then none else if d = 0 then scan l (a ++ [c]) b d else scan l a (b ++ [c]) d
def padR (l : List UInt8) : List UInt8 := l ++ List.replicate (4 - l.length) 48
def afterScan (m : Bool) : Option (List UInt8 × List UInt8 × Nat) → Int × Bool
  | none => (0, false)
  | some (a, b, d) => if 1 < d ∨ a = [] ∨ d = 1 ∧ b = [] ∨ 4 < b.length then (0, false) else valueR m (strip (a ++ padR b))
def parseR (s : List UInt8) : Int × Bool := if s.head? = some 45 then afterScan true (scan (s.drop 1) [] [] 0) else afterScan false (scan s [] [] 0)

theorem digs_bad {l : List UInt8} {c : UInt8} (hc : c ∈ l) (hb : c < 48 ∨ 57 < c) : ∀ n, digs n l = none := by
  induction l with
  | nil => cases hc
  | cons x l ih =>
    intro n
    simp only [digs]
    rcases List.mem_cons.1 hc with rfl | h
    · rw [if_pos (by rcases hb with h | h <;> simp [h])]
    · split
      · rfl
      · exact ih h _

/-- a body with a bad sign somewhere is no number -/
theorem body_bad (m : Bool) {l a b : List UInt8} {d : Bool} (hcut : cut l [46] = (a, b, d)) {c : UInt8} (hc : c ∈ a ++ b) (hb : c < 48 ∨ 57 < c) : parseBody m l = (0, false) := by
  unfold parseBody
  rw [hcut]
  split
  · rfl
  · simp only
    rw [digs_bad (c := c) (by rw [← List.append_assoc]; exact List.mem_append_left _ hc) hb]
    rfl
theorem scan_ok : ∀ (l a b : List UInt8) (d : Nat), d ≠ 0 → (∀ c ∈ l, ¬ (c < 48 ∨ 57 < c)) → scan l a b d = some (a, b ++ l, d) := by
  intro l
  induction l with
  | nil => intro a b d _ _; simp [scan]
  | cons c l ih =>
    intro a b d hd h
    have hc := h c (by simp)
    have h46 : c ≠ 46 := fun e => hc (.inl (by rw [e]; decide))
    simp only [scan]
    rw [if_neg h46, if_neg hc, if_neg hd, ih a (b ++ [c]) d hd (fun x hx => h x (by simp [hx])), List.append_assoc]
    rfl
theorem scan_ok0 : ∀ (l a : List UInt8), (∀ c ∈ l, ¬ (c < 48 ∨ 57 < c)) → ∀ r : List UInt8, scan (l ++ r) a [] 0 = scan r (a ++ l) [] 0 := by
  intro l
  induction l with
  | nil => intro a _ r; simp
  | cons c l ih =>
    intro a h r
    have hc := h c (by simp)
    have h46 : c ≠ 46 := fun e => hc (.inl (by rw [e]; decide))
    simp only [List.cons_append, scan]
    rw [if_neg h46, if_neg hc, if_pos trivial, ih (a ++ [c]) (fun x hx => h x (by simp [hx])) r, List.append_assoc]
    rfl
/-- behind a first full stop: a bad sign, or one more stop, and nothing comes of it -/
theorem scan_bad (m : Bool) : ∀ (l a b : List UInt8) (d : Nat), d ≠ 0 → (∃ c ∈ l, c < 48 ∨ 57 < c) → afterScan m (scan l a b d) = (0, false) := by
  intro l
  induction l with
  | nil => rintro a b d _ ⟨c, hc, _⟩; cases hc
  | cons c l ih =>
    rintro a b d hd ⟨x, hx, hb⟩
    simp only [scan]
    by_cases h46 : c = 46
    · rw [if_pos h46]
      by_cases hm : ∃ y ∈ l, y < 48 ∨ 57 < y
      · exact ih a b (d + 1) (by omega) hm
      · rw [scan_ok l a b (d + 1) (by omega) (fun y hy e => hm ⟨y, hy, e⟩)]
        simp only [afterScan]
        rw [if_pos (Or.inl (by omega))]
    · rw [if_neg h46]
      by_cases hbad : c < 48 ∨ 57 < c
      · rw [if_pos hbad]; rfl
      · rw [if_neg hbad, if_neg hd]
        rcases List.mem_cons.1 hx with rfl | h
        · exact absurd hb hbad
        · exact ih a (b ++ [c]) d hd ⟨x, h, hb⟩
theorem scan_bad0 (m : Bool) : ∀ (l a r : List UInt8), (∃ c ∈ l, (c < 48 ∨ 57 < c) ∧ c ≠ 46) → (∀ c ∈ l, c ≠ 46) → afterScan m (scan (l ++ r) a [] 0) = (0, false) := by
  intro l
  induction l with
  | nil => rintro a r ⟨c, hc, _⟩ _; cases hc
  | cons c l ih =>
    rintro a r ⟨x, hx, hb, _⟩ hn
    have h46 := hn c (by simp)
    simp only [List.cons_append, scan]
    rw [if_neg h46]
    by_cases hbad : c < 48 ∨ 57 < c
    · rw [if_pos hbad]; rfl
    · rw [if_neg hbad, if_pos trivial]
      rcases List.mem_cons.1 hx with rfl | h
      · exact absurd hb hbad
      · exact ih (a ++ [c]) r ⟨x, h, hb, hn x (by simp [h])⟩ (fun y hy => hn y (by simp [hy]))

theorem split_dot (l : List UInt8) : (∀ c ∈ l, c ≠ 46) ∨ ∃ a b, l = a ++ 46 :: b ∧ ∀ c ∈ a, c ≠ 46 := by
  induction l with
  | nil => exact .inl fun c hc => by cases hc
  | cons c l ih =>
    by_cases h : c = 46
    · exact .inr ⟨[], l, by rw [h]; rfl, fun x hx => by cases hx⟩
    · rcases ih with h1 | ⟨a, b, rfl, h1⟩
      · exact .inl fun x hx => by rcases List.mem_cons.1 hx with rfl | hx; exact h; exact h1 x hx
      · exact .inr ⟨c :: a, b, rfl, fun x hx => by rcases List.mem_cons.1 hx with rfl | hx; exact h; exact h1 x hx⟩

theorem dig_of_ok {l : List UInt8} (h : ∀ c ∈ l, ¬ (c < 48 ∨ 57 < c)) : Dig l := fun c hc => by
  have := h c hc
  simp only [UInt8.lt_iff_toNat_lt] at this
  have : ¬ (c.toNat < 48 ∨ 57 < c.toNat) := this
  omega

theorem scan_body (m : Bool) (l : List UInt8) : afterScan m (scan l [] [] 0) = parseBody m l := by
  rcases split_dot l with h46 | ⟨a, b, rfl, h46⟩
  · have hcut := cut_nodot l h46
    by_cases hbad : ∃ c ∈ l, c < 48 ∨ 57 < c
    · obtain ⟨c, hc, hb⟩ := hbad
      rw [body_bad m hcut (c := c) (by simpa using hc) hb]
      have := scan_bad0 m l [] [] ⟨c, hc, hb, h46 c hc⟩ h46
      rwa [List.append_nil] at this
    · have hok : ∀ c ∈ l, ¬ (c < 48 ∨ 57 < c) := fun c hc e => hbad ⟨c, hc, e⟩
      have hs := scan_ok0 l [] hok []
      rw [List.append_nil] at hs
      rw [hs]
      simp only [scan, List.nil_append, afterScan, parseBody, hcut]
      by_cases hl : l = []
      · rw [if_pos (.inr (.inl hl)), if_pos (.inl hl)]
      · rw [if_neg (by simp [hl]), if_neg (by simp [hl])]
        have hd := dig_of_ok hok
        rw [valueR_val _ (dig_strip (hd.append ?_)), val_strip, ← valueR_val m (l := l ++ padR []) (hd.append ?_)]
        · rfl
        · exact dig_zeros 4
        · exact dig_zeros 4
  · have hcut := cut_dot a b h46
    by_cases hbad : ∃ c ∈ a, c < 48 ∨ 57 < c
    · obtain ⟨c, hc, hb⟩ := hbad
      rw [body_bad m hcut (c := c) (by simp [hc]) hb]
      exact scan_bad0 m a [] _ ⟨c, hc, hb, h46 c hc⟩ h46
    · have hok : ∀ c ∈ a, ¬ (c < 48 ∨ 57 < c) := fun c hc e => hbad ⟨c, hc, e⟩
      rw [scan_ok0 a [] hok]
      simp only [scan, List.nil_append, if_true]
      by_cases hbad2 : ∃ c ∈ b, c < 48 ∨ 57 < c
      · obtain ⟨c, hc, hb⟩ := hbad2
        rw [body_bad m hcut (c := c) (by simp [hc]) hb]
        exact scan_bad m b a [] (0 + 1) (by omega) ⟨c, hc, hb⟩
      · have hok2 : ∀ c ∈ b, ¬ (c < 48 ∨ 57 < c) := fun c hc e => hbad2 ⟨c, hc, e⟩
        rw [scan_ok b a [] (0 + 1) (by omega) hok2]
        simp only [List.nil_append, afterScan, parseBody, hcut]
        by_cases he : a = [] ∨ b = [] ∨ 4 < b.length
        · rw [if_pos (by rcases he with h | h | h <;> simp [h]), if_pos (by rcases he with h | h | h <;> simp [h])]
        · simp only [not_or] at he
          rw [if_neg (by simp [he.1, he.2.1]; omega), if_neg (by simp [he.1, he.2.1]; omega)]
          have hd := dig_of_ok hok
          have hd2 := dig_of_ok hok2
          have hp : padR b = b ++ [48, 48, 48, 48].drop b.length := by
            unfold padR
            congr 1
            have h4 : b.length ≤ 4 := by omega
            generalize b.length = k at h4
            obtain rfl | rfl | rfl | rfl | rfl : k = 0 ∨ k = 1 ∨ k = 2 ∨ k = 3 ∨ k = 4 := by omega
            all_goals rfl
          have hdp : Dig (padR b) := by unfold padR; exact hd2.append (dig_zeros _)
          rw [valueR_val _ (dig_strip (hd.append hdp)), val_strip, ← valueR_val m (l := a ++ padR b) (hd.append hdp), hp]
          rfl

theorem parseR_eq (s : List UInt8) : parseR s = parse s := by
  unfold parseR parse
  cases s with
  | nil => simp [hasPrefix, trimPrefix, List.isPrefixOf, scan_body]
  | cons c l =>
    by_cases h : c = 45
    · subst h
      have e : hasPrefix (45 :: l) [45] = true := by simp [hasPrefix, List.isPrefixOf]
      rw [if_pos (by rfl), scan_body, e]
      unfold trimPrefix
      rw [e]; rfl
    · have e : hasPrefix (c :: l) [45] = false := by simp [hasPrefix, List.isPrefixOf]; exact fun e => h e.symm
      rw [if_neg (by simp [h]), scan_body, e]
      unfold trimPrefix
      rw [e]; rfl
end Tab
