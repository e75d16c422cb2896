/-
  THE PLAIN LAW of signs: how many bytes a sign has, by its bytes, against the model's own decoder.
-/
import Derived.Lib.DecodeN
namespace Go.Proofs.YtkobkeopajohiaaGreatDoor
open Go.Lib
theorem get_ext (s : ByteArray) (p k : Nat) : (s.extract p s.size).get! (0 + k) = s.get! (p + k) := by
  have e : (s.extract p s.size).data[0 + k]? = s.data[p + k]? := by
    rw [ByteArray.data_extract, Array.getElem?_extract]
    have : s.size = s.data.size := rfl
    by_cases h : p + k < s.data.size
    · rw [if_pos (by omega)]; simp
    · rw [if_neg (by omega), Array.getElem?_eq_none (by omega)]
  simp only [ByteArray.get!, getElem!_def, e]
theorem decode_cut (s : ByteArray) (p : Nat) : Utf8.decode (s.extract p s.size) 0 = Utf8.decode s p := by
  rw [decode_at, decode_at]
  rw [show (s.extract p s.size).get! 0 = s.get! p from get_ext s p 0, get_ext s p 1, get_ext s p 2, get_ext s p 3]
  simp
/-- how many bytes the sign at a place has, by its bytes; 0: there is none -/
def signW (n b0 b1 b2 b3 : Nat) : Nat :=
  if b0 < 128 then 1 else
  if 194 ≤ b0 ∧ b0 ≤ 223 ∧ (1 < n ∧ 128 ≤ b1 ∧ b1 ≤ 191) then 2 else
  let from' := if b0 = 240 then 144 else if b0 = 224 ∨ b0 = 240 then 160 else 128
  let to' := if b0 = 244 then 143 else if b0 = 237 then 159 else 191
  if 224 ≤ b0 ∧ b0 ≤ 239 ∧ (1 < n ∧ from' ≤ b1 ∧ b1 ≤ to') ∧ (2 < n ∧ 128 ≤ b2 ∧ b2 ≤ 191) then 3 else
  if 240 ≤ b0 ∧ b0 ≤ 244 ∧ (1 < n ∧ from' ≤ b1 ∧ b1 ≤ to') ∧ (2 < n ∧ 128 ≤ b2 ∧ b2 ≤ 191) ∧ (3 < n ∧ 128 ≤ b3 ∧ b3 ≤ 191) then 4 else 0
set_option maxRecDepth 100000 in
set_option maxHeartbeats 4000000 in
theorem signW_eq (n b0 b1 b2 b3 : Nat) (h0 : b0 < 256) (h1 : b1 < 256) (h2 : b2 < 256) (h3 : b3 < 256) :
    signW n b0 b1 b2 b3 = if (decodeN n b0 b1 b2 b3).2 = 1 ∧ (decodeN n b0 b1 b2 b3).1 = 65533 then 0 else (decodeN n b0 b1 b2 b3).2 := by
  unfold signW decodeN
  by_cases a0 : b0 < 128
  · simp only [a0, if_true]
    rw [if_neg (by omega)]
  simp only [a0, if_false]
  by_cases a1 : 194 ≤ b0 ∧ b0 ≤ 223
  · have e1 : b0 / 32 = 6 := by omega
    have e2 : ¬ b0 / 16 = 14 := by omega
    have e3 : ¬ b0 / 8 = 30 := by omega
    have e4 : ¬ 224 ≤ b0 := by omega
    have e5 : ¬ 240 ≤ b0 := by omega
    simp only [e1, e2, e3, e4, e5, a1.1, a1.2, true_and, false_and, if_false]
    by_cases c : 1 < n ∧ b1 / 64 = 2
    · rw [if_pos c]
      repeat' split
      all_goals first | rfl | (exfalso; omega) | (simp_all; done) | (exfalso; simp_all; omega)
    · rw [if_neg c]
      repeat' split
      all_goals first | rfl | (exfalso; omega) | (simp_all; done) | (exfalso; simp_all; omega)
  · rw [if_neg (by omega)]
    by_cases a2 : 224 ≤ b0 ∧ b0 ≤ 239
    · have e1 : ¬ b0 / 32 = 6 := by omega
      have e2 : b0 / 16 = 14 := by omega
      have e3 : ¬ b0 / 8 = 30 := by omega
      have e5 : ¬ 240 ≤ b0 := by omega
      have e6 : ¬ b0 = 240 := by omega
      have e7 : ¬ b0 = 244 := by omega
      simp only [e1, e2, e3, e5, e6, e7, a2.1, a2.2, true_and, false_and, if_false, or_false]
      by_cases c : (1 < n ∧ b1 / 64 = 2) ∧ 2 < n ∧ b2 / 64 = 2
      · rw [if_pos c]
        repeat' split
        all_goals first | rfl | (exfalso; omega) | (simp_all; done) | (exfalso; simp_all; omega)
      · rw [if_neg c]
        repeat' split
        all_goals first | rfl | (exfalso; omega) | (simp_all; done) | (exfalso; simp_all; omega)
    · by_cases a3 : 240 ≤ b0 ∧ b0 ≤ 244
      · have e1 : ¬ b0 / 32 = 6 := by omega
        have e2 : ¬ b0 / 16 = 14 := by omega
        have e3 : b0 / 8 = 30 := by omega
        have e5 : ¬ b0 ≤ 239 := by omega
        have e6 : ¬ b0 = 237 := by omega
        have e7 : ¬ b0 = 224 := by omega
        simp only [e1, e2, e3, e5, e6, e7, a3.1, a3.2, true_and, false_and, if_false, false_or, and_false]
        by_cases c : (1 < n ∧ b1 / 64 = 2) ∧ (2 < n ∧ b2 / 64 = 2) ∧ 3 < n ∧ b3 / 64 = 2
        · rw [if_pos c]
          repeat' split
          all_goals first | rfl | (exfalso; omega) | (simp_all; done) | (exfalso; simp_all; omega)
        · rw [if_neg c]
          repeat' split
          all_goals first | rfl | (exfalso; omega) | (simp_all; done) | (exfalso; simp_all; omega)
      · repeat' split
        all_goals first | rfl | (exfalso; omega) | (simp_all; done) | (exfalso; simp_all; omega)
end Go.Proofs.YtkobkeopajohiaaGreatDoor
