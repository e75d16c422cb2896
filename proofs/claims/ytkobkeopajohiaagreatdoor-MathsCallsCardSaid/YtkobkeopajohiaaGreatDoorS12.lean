/-
  CONTRACTS of the reference's limits and Has of layer 16, at any name.
-/
import Derived.Test.YtkobkeopajohiaaGreatDoorF1
import Derived.LoopTactic
namespace Go.Proofs.YtkobkeopajohiaaGreatDoor
open Go.RowKit Go.Lib

/-- the twenty names -/
def nameL : List (List UInt8) := [[65, 66, 83], [83, 73, 71, 78], [73, 78, 84], [83, 81, 82, 84], [70, 65, 67, 84], [69, 86, 69, 78], [79, 68, 68], [84, 82, 85, 78, 67], [70, 76, 79, 79, 82], [67, 69, 73, 76, 73, 78, 71], [82, 79, 85, 78, 68], [82, 79, 85, 78, 68, 85, 80], [82, 79, 85, 78, 68, 68, 79, 87, 78], [77, 82, 79, 85, 78, 68], [77, 79, 68], [81, 85, 79, 84, 73, 69, 78, 84], [80, 79, 87, 69, 82], [67, 76, 65, 77, 80], [71, 67, 68], [76, 67, 77]]
def nameC : List Value := [.string ⟨#[65, 66, 83]⟩, .string ⟨#[83, 73, 71, 78]⟩, .string ⟨#[73, 78, 84]⟩, .string ⟨#[83, 81, 82, 84]⟩, .string ⟨#[70, 65, 67, 84]⟩, .string ⟨#[69, 86, 69, 78]⟩, .string ⟨#[79, 68, 68]⟩, .string ⟨#[84, 82, 85, 78, 67]⟩, .string ⟨#[70, 76, 79, 79, 82]⟩, .string ⟨#[67, 69, 73, 76, 73, 78, 71]⟩, .string ⟨#[82, 79, 85, 78, 68]⟩, .string ⟨#[82, 79, 85, 78, 68, 85, 80]⟩, .string ⟨#[82, 79, 85, 78, 68, 68, 79, 87, 78]⟩, .string ⟨#[77, 82, 79, 85, 78, 68]⟩, .string ⟨#[77, 79, 68]⟩, .string ⟨#[81, 85, 79, 84, 73, 69, 78, 84]⟩, .string ⟨#[80, 79, 87, 69, 82]⟩, .string ⟨#[67, 76, 65, 77, 80]⟩, .string ⟨#[71, 67, 68]⟩, .string ⟨#[76, 67, 77]⟩]
def limI (i : Nat) : Int × Int := if i < 7 then (1, 1) else if i < 13 then (1, 2) else if i < 17 then (2, 2) else if i = 17 then (3, 3) else (1, 30)
theorem lim_none (s : ByteArray) (h : ∀ j, j < 20 → (s.toList == nameL.getD j []) = false) : lim s = (0, 0) := by
  have g := fun j hj => h j hj
  unfold lim
  rw [if_neg (by have := g 0 (by omega); simp only [nameL, List.getD_cons_zero] at this; rw [this]; simp)]
  rw [if_neg (by have := g 1 (by omega); simp only [nameL, List.getD_cons_succ, List.getD_cons_zero] at this; rw [this]; simp)]
  rw [if_neg (by have := g 2 (by omega); simp only [nameL, List.getD_cons_succ, List.getD_cons_zero] at this; rw [this]; simp)]
  rw [if_neg (by have := g 3 (by omega); simp only [nameL, List.getD_cons_succ, List.getD_cons_zero] at this; rw [this]; simp)]
  rw [if_neg (by have := g 4 (by omega); simp only [nameL, List.getD_cons_succ, List.getD_cons_zero] at this; rw [this]; simp)]
  rw [if_neg (by have := g 5 (by omega); simp only [nameL, List.getD_cons_succ, List.getD_cons_zero] at this; rw [this]; simp)]
  rw [if_neg (by have := g 6 (by omega); simp only [nameL, List.getD_cons_succ, List.getD_cons_zero] at this; rw [this]; simp)]
  rw [if_neg (by have := g 7 (by omega); simp only [nameL, List.getD_cons_succ, List.getD_cons_zero] at this; rw [this]; simp)]
  rw [if_neg (by have := g 8 (by omega); simp only [nameL, List.getD_cons_succ, List.getD_cons_zero] at this; rw [this]; simp)]
  rw [if_neg (by have := g 9 (by omega); simp only [nameL, List.getD_cons_succ, List.getD_cons_zero] at this; rw [this]; simp)]
  rw [if_neg (by have := g 10 (by omega); simp only [nameL, List.getD_cons_succ, List.getD_cons_zero] at this; rw [this]; simp)]
  rw [if_neg (by have := g 11 (by omega); simp only [nameL, List.getD_cons_succ, List.getD_cons_zero] at this; rw [this]; simp)]
  rw [if_neg (by have := g 12 (by omega); simp only [nameL, List.getD_cons_succ, List.getD_cons_zero] at this; rw [this]; simp)]
  rw [if_neg (by have := g 13 (by omega); simp only [nameL, List.getD_cons_succ, List.getD_cons_zero] at this; rw [this]; simp)]
  rw [if_neg (by have := g 14 (by omega); simp only [nameL, List.getD_cons_succ, List.getD_cons_zero] at this; rw [this]; simp)]
  rw [if_neg (by have := g 15 (by omega); simp only [nameL, List.getD_cons_succ, List.getD_cons_zero] at this; rw [this]; simp)]
  rw [if_neg (by have := g 16 (by omega); simp only [nameL, List.getD_cons_succ, List.getD_cons_zero] at this; rw [this]; simp)]
  rw [if_neg (by have := g 17 (by omega); simp only [nameL, List.getD_cons_succ, List.getD_cons_zero] at this; rw [this]; simp)]
  rw [if_neg (by have := g 18 (by omega); simp only [nameL, List.getD_cons_succ, List.getD_cons_zero] at this; rw [this]; simp)]
  rw [if_neg (by have := g 19 (by omega); simp only [nameL, List.getD_cons_succ, List.getD_cons_zero] at this; rw [this]; simp)]
theorem lim_some (s : ByteArray) (i : Nat) (hi : i < 20) (h : ∀ j, j < i → (s.toList == nameL.getD j []) = false) (hs : (s.toList == nameL.getD i []) = true) : lim s = limI i := by
  have e : s.toList = nameL.getD i [] := by simpa using hs
  unfold lim
  rw [e]
  have hc : i = 0 ∨ i = 1 ∨ i = 2 ∨ i = 3 ∨ i = 4 ∨ i = 5 ∨ i = 6 ∨ i = 7 ∨ i = 8 ∨ i = 9 ∨ i = 10 ∨ i = 11 ∨ i = 12 ∨ i = 13 ∨ i = 14 ∨ i = 15 ∨ i = 16 ∨ i = 17 ∨ i = 18 ∨ i = 19 := by omega
  rcases hc with rfl | rfl | rfl | rfl | rfl | rfl | rfl | rfl | rfl | rfl | rfl | rfl | rfl | rfl | rfl | rfl | rfl | rfl | rfl | rfl <;> decide
set_option maxHeartbeats 6400000 in
set_option maxRecDepth 100000 in
theorem refLimits_any (s : ByteArray) (a b : Int) (w : World) (hl : lim s = (a, b)) :
    Calls Tryz.prog 39 #[.string s] w fun e w' => e = .returned (.tuple #[.int .i64 a, .int .i64 b]) ∧ Below w.heap.size w w' := by
  have HL := Lib.hid hl
  clear hl
  go_enter Tryz.func39, Tryz.ntmps39
  go_wp2
  have hcell : ∀ i : Nat, i < 20 → (w.alloc (.cells nameC.toArray 9)).cell? ⟨w.heap.size, i, none⟩ = some (.string ⟨(nameL.getD i []).toArray⟩) := fun i hi => by
    rw [World.cell?_alloc_at _ _ _ _ rfl]
    have hc : i = 0 ∨ i = 1 ∨ i = 2 ∨ i = 3 ∨ i = 4 ∨ i = 5 ∨ i = 6 ∨ i = 7 ∨ i = 8 ∨ i = 9 ∨ i = 10 ∨ i = 11 ∨ i = 12 ∨ i = 13 ∨ i = 14 ∨ i = 15 ∨ i = 16 ∨ i = 17 ∨ i = 18 ∨ i = 19 := by omega
    rcases hc with rfl | rfl | rfl | rfl | rfl | rfl | rfl | rfl | rfl | rfl | rfl | rfl | rfl | rfl | rfl | rfl | rfl | rfl | rfl | rfl <;> rfl
  have hbw : Below w.heap.size w (w.alloc (.cells nameC.toArray 9)) := (Below.refl _ _).alloc (Nat.le_refl _) _
  have HC := Lib.hid hcell
  have HB := Lib.hid hbw
  clear hcell hbw
  change Code.wp _ _ _ _ (w.alloc (.cells nameC.toArray 9))
  generalize w.alloc (.cells nameC.toArray 9) = W0 at *
  go_loop [10] (fun vi => ∃ i : Nat, vi = .int .i64 i ∧ i ≤ 20 ∧ Hid (∀ j, j < i → (s.toList == nameL.getD j []) = false)) (fun vi => 20 - (RowKit.intOf vi).toNat)
  case atStart => exact ⟨0, rfl, by omega, Lib.hid (fun j hj => by omega)⟩
  case round =>
    obtain ⟨i, rfl, hi, hinv⟩ := hrel
    by_cases hi20 : i < 20
    · have hc := HC.out i hi20
      have hii : (i : Int) < 20 := by omega
      have htl : (⟨(nameL.getD i []).toArray⟩ : ByteArray).toList = nameL.getD i [] := by rw [Lib.toList_data]
      cases hq : (s.toList == nameL.getD i []) with
      | true =>
        have hl := lim_some s i hi20 hinv.out hq
        rw [HL.out] at hl
        have he : ((⟨(nameL.getD i []).toArray⟩ : ByteArray).toList == s.toList) = true := by rw [htl]; have : s.toList = nameL.getD i [] := by simpa using hq
                                                                                              rw [this]; simp
        generalize (⟨(nameL.getD i []).toArray⟩ : ByteArray) = nb at *
        have hl2 : (i < 7 ∧ a = 1 ∧ b = 1) ∨ (¬ i < 7 ∧ i < 13 ∧ a = 1 ∧ b = 2) ∨ (¬ i < 7 ∧ ¬ i < 13 ∧ i < 17 ∧ a = 2 ∧ b = 2) ∨ (¬ i < 7 ∧ ¬ i < 13 ∧ ¬ i < 17 ∧ i = 17 ∧ a = 3 ∧ b = 3) ∨ (¬ i < 7 ∧ ¬ i < 13 ∧ ¬ i < 17 ∧ ¬ i = 17 ∧ a = 1 ∧ b = 30) := by
          unfold limI at hl
          by_cases h1 : i < 7
          · rw [if_pos h1] at hl; simp at hl; exact .inl ⟨h1, hl.1, hl.2⟩
          · rw [if_neg h1] at hl
            by_cases h2 : i < 13
            · rw [if_pos h2] at hl; simp at hl; exact .inr (.inl ⟨h1, h2, hl.1, hl.2⟩)
            · rw [if_neg h2] at hl
              by_cases h3 : i < 17
              · rw [if_pos h3] at hl; simp at hl; exact .inr (.inr (.inl ⟨h1, h2, h3, hl.1, hl.2⟩))
              · rw [if_neg h3] at hl
                by_cases h4 : i = 17
                · rw [if_pos h4] at hl; simp at hl; exact .inr (.inr (.inr (.inl ⟨h1, h2, h3, h4, hl.1, hl.2⟩)))
                · rw [if_neg h4] at hl; simp at hl; exact .inr (.inr (.inr (.inr ⟨h1, h2, h3, h4, hl.1, hl.2⟩)))
        clear hl hq htl hinv HC HL
        rcases hl2 with ⟨h1, rfl, rfl⟩ | ⟨h1, h2, rfl, rfl⟩ | ⟨h1, h2, h3, rfl, rfl⟩ | ⟨h1, h2, h3, rfl, rfl, rfl⟩ | ⟨h1, h2, h3, h4, rfl, rfl⟩
        · go_wp2
          go_ret2
          exact ⟨rfl, HB.out⟩
        · go_wp2
          go_ret2
          exact ⟨rfl, HB.out⟩
        · go_wp2
          go_ret2
          exact ⟨rfl, HB.out⟩
        · go_wp2
          go_ret2
          exact ⟨rfl, HB.out⟩
        · have h5 : ((i : Int) == 17) = false := by rw [beq_eq_false_iff_ne]; omega
          go_wp2
          go_ret2
          exact ⟨rfl, HB.out⟩
      | false =>
        have he : ((⟨(nameL.getD i []).toArray⟩ : ByteArray).toList == s.toList) = false := by
          rw [htl]
          rw [beq_eq_false_iff_ne] at hq ⊢
          exact fun e => hq e.symm
        have HN : Hid (∀ j, j < i + 1 → (s.toList == nameL.getD j []) = false) := Lib.hid fun j hj => by
          by_cases e : j = i
          · rw [e]; exact hq
          · exact hinv.out j (by omega)
        generalize (⟨(nameL.getD i []).toArray⟩ : ByteArray) = nb at *
        clear hq htl hinv
        go_wp2
        go_round
        case rel => exact ⟨i + 1, by go_num, by omega, HN⟩
        case measure => simp [RowKit.intOf]; omega
    · obtain rfl : i = 20 := by omega
      have hl := lim_none s hinv.out
      rw [HL.out] at hl
      obtain ⟨rfl, rfl⟩ := Prod.mk.inj hl
      clear hl HL hinv HC
      go_wp2
      go_ret2
      exact ⟨rfl, HB.out⟩
theorem refHas_any (s : ByteArray) (a b : Int) (w : World) (h : lim s = (a, b)) (k : Bool) (hk : decide (0 < b) = k) :
    Calls Tryz.prog 11 #[.string s] w fun e w' => e = .returned (.bool k) ∧ Below w.heap.size w w' := by
  have HL := Lib.hid fun w => refLimits_any s a b w h
  have HK := Lib.hid hk
  clear h hk
  go_enter Tryz.func11, Tryz.ntmps11
  go_wp2_with (first | (go_at_call 39; fail))
  go_at_call 39
  refine (HL.out _).mono ?_
  rintro e w1 ⟨rfl, hb⟩
  go_wp2
  go_ret
  exact ⟨ret_bool HK.out, hb⟩
end Go.Proofs.YtkobkeopajohiaaGreatDoor
