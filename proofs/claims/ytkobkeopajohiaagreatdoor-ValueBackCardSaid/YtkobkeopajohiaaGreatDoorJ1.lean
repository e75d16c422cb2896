/-
  THE PLAIN LAW of Input and Typed: what somebody types, as a value; a number's text is that number.
-/
import Derived.Test.YtkobkeopajohiaaGreatDoorG8
namespace Go.Proofs.YtkobkeopajohiaaGreatDoor
open Go.RowKit Go.Lib

theorem trimB_none (l : List UInt8) (h : ∀ c ∈ l, c ≠ 32) : Lib.trimB l 32 = l := by
  have key : ∀ m : List UInt8, (∀ c ∈ m, c ≠ 32) → m.dropWhile (· == 32) = m := fun m hm => by
    cases m with
    | nil => rfl
    | cons c m =>
      have : (c == 32) = false := by rw [beq_eq_false_iff_ne]; exact hm c (by simp)
      rw [List.dropWhile_cons, this]; rfl
  unfold Lib.trimB Lib.trimLeftB Lib.trimRightB
  rw [key l.reverse (fun c hc => h c (List.mem_reverse.1 hc)), List.reverse_reverse, key l h]
theorem text_chars (a : Int) : ∀ c ∈ Tab.text a, 45 ≤ c.toNat ∧ c.toNat ≤ 57 := by
  intro c hc
  unfold Tab.text at hc
  rcases List.mem_append.1 hc with h | h
  · split at h
    · simp at h; subst h; decide
    · simp at h
  rcases List.mem_append.1 h with h | h
  · have := Tab.dec_mem _ c h; omega
  · unfold Tab.frac at h
    split at h
    · simp at h
    · rcases List.mem_cons.1 h with rfl | h
      · decide
      · unfold Lib.trimRightB at h
        have h2 := (List.dropWhile_suffix _).subset (List.mem_reverse.1 h)
        have h3 := List.mem_of_mem_drop (List.mem_reverse.1 h2)
        have := Tab.dec_mem _ c h3; omega
theorem text_trim (a : Int) : Lib.trimB (Tab.text a) 32 = Tab.text a :=
  trimB_none _ fun c hc e => by subst e; exact absurd (text_chars a 32 hc).1 (by decide)
theorem pre_no (l : List UInt8) (h : ∀ c ∈ l, c ≠ 39) : Lib.hasPrefix l [39] = false := by
  cases l with
  | nil => rfl
  | cons c l =>
    have : (39 == c) = false := by rw [beq_eq_false_iff_ne]; exact fun e => h c (by simp) e.symm
    simp [Lib.hasPrefix, List.isPrefixOf, this]
theorem text_pre (a : Int) : Lib.hasPrefix (Tab.text a) [39] = false :=
  pre_no _ fun c hc e => by subst e; exact absurd (text_chars a 39 hc).1 (by decide)

def TRUE' : List UInt8 := [84, 82, 85, 69]
def FALSE' : List UInt8 := [70, 65, 76, 83, 69]
/-- a text that is a failure's, as that failure; else the text itself -/
def errV (g : List UInt8) (s : ByteArray) : V :=
  if (g == [35, 68, 73, 86, 47, 48, 33]) = true then .fail 1 else
  if (g == [35, 78, 85, 77, 33]) = true then .fail 2 else
  if (g == [35, 86, 65, 76, 85, 69, 33]) = true then .fail 3 else
  if (g == [35, 82, 69, 70, 33]) = true then .fail 4 else
  if (g == [35, 78, 47, 65]) = true then .fail 5 else
  if (g == [35, 78, 65, 77, 69, 63]) = true then .fail 6 else
  if (g == [35, 67, 89, 67, 76, 69, 33]) = true then .fail 7 else
  .text s
/-- what somebody types, as a value -/
def inputV (s : ByteArray) : V :=
  if Lib.hasPrefix s.data.toList [39] = true then .text ⟨(s.data.toList.drop 1).toArray⟩ else
  if (Tab.parse (Lib.trimB s.data.toList 32)).2 = true then .num (Tab.parse (Lib.trimB s.data.toList 32)).1 else
  let g := (Lib.trimB s.data.toList 32).map upperB
  if g = [] then .blank else if g = TRUE' then .bool true else if g = FALSE' then .bool false else
  errV g s
theorem input_text_back (a : Int) (h : -999999999999999999 ≤ a ∧ a ≤ 999999999999999999) : inputV ⟨(Tab.text a).toArray⟩ = .num a := by
  unfold inputV
  show (if Lib.hasPrefix (Tab.text a) [39] = true then _ else _) = _
  rw [text_pre]
  show (if (Tab.parse (Lib.trimB (Tab.text a) 32)).2 = true then V.num (Tab.parse (Lib.trimB (Tab.text a) 32)).1 else _) = _
  rw [text_trim, Tab.parse_text a h]
  rfl
theorem input_true : inputV ⟨#[84, 82, 85, 69]⟩ = .bool true := by kernel_rfl
theorem input_false : inputV ⟨#[70, 65, 76, 83, 69]⟩ = .bool false := by kernel_rfl
theorem input_none : inputV ByteArray.empty = .blank := by kernel_rfl
theorem input_errs : ∀ (i : Nat) (s : ByteArray), errTexts[i]? = some s → inputV s = .fail ((i : Int) + 1)
  | 0, _, h => by simp [errTexts] at h; subst h; kernel_rfl
  | 1, _, h => by simp [errTexts] at h; subst h; kernel_rfl
  | 2, _, h => by simp [errTexts] at h; subst h; kernel_rfl
  | 3, _, h => by simp [errTexts] at h; subst h; kernel_rfl
  | 4, _, h => by simp [errTexts] at h; subst h; kernel_rfl
  | 5, _, h => by simp [errTexts] at h; subst h; kernel_rfl
  | 6, _, h => by simp [errTexts] at h; subst h; kernel_rfl
  | n + 7, _, h => by simp [errTexts] at h
theorem input_quoted (s : ByteArray) : inputV (⟨#[39]⟩ ++ s) = .text s := by
  unfold inputV
  have e : ((⟨#[39]⟩ : ByteArray) ++ s).data.toList = 39 :: s.data.toList := by rw [ByteArray.data_append]; simp
  rw [e, if_pos (by simp [Lib.hasPrefix, List.isPrefixOf])]
  simp
end Go.Proofs.YtkobkeopajohiaaGreatDoor
