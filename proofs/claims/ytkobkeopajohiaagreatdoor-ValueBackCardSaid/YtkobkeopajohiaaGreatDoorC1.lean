/-
  CONTRACTS of package deci's functions of numbers: what each answers, for every number within the bounds that stand at it; the powers of ten are read as the program's text lays them (Glob).
-/
import Derived.Test.YtkobkeopajohiaaGreatDoorShelf
import Derived.Test.YtkobkeopajohiaaGreatDoorPlain
import Derived.WalkKit
import Derived.Below
import Derived.OwnWalk
import Derived.WalkSpells
import Derived.WalkLawsBesides
import Derived.WalkSmall
import Derived.Lib.Hide
import Derived.Laws.Bits64b
namespace Go.Proofs.YtkobkeopajohiaaGreatDoor
open Go.RowKit

theorem ret_int {k : IntKind} {a b : Int} (h : a = b) : Ending.returned (.int k a) = .returned (.int k b) := by rw [h]
theorem ret_bool {a b : Bool} (h : a = b) : Ending.returned (.bool a) = .returned (.bool b) := by rw [h]
theorem ret_ib {k : IntKind} {a b : Int} {p q : Bool} (h : a = b) (h' : p = q) : Ending.returned (.tuple #[.int k a, .bool p]) = .returned (.tuple #[.int k b, .bool q]) := by rw [h, h']

theorem size_any (a : Int) (w : World) (h0 : -4000000000000000000 ≤ a) (h1 : a ≤ 4000000000000000000) :
    Calls Tryz.prog 115 #[.int .i64 a] w fun e w' => e = .returned (.int .u64 (a.natAbs : Int)) ∧ w = w' := by
  by_cases hn : a < 0
  · go_enter Tryz.func115, Tryz.ntmps115
    go_wp2
    go_ret
    exact ⟨ret_int (by omega), rfl⟩
  · go_enter Tryz.func115, Tryz.ntmps115
    go_wp2
    go_ret
    exact ⟨ret_int (by omega), rfl⟩

theorem made_any (minus : Bool) (lo : Nat) (w : World) (h : lo ≤ 4000000000000000000) :
    Calls Tryz.prog 116 #[.bool minus, .int .u64 0, .int .u64 lo] w fun e w' => e = .returned (.tuple #[.int .i64 (Tab.made minus lo).1, .bool (Tab.made minus lo).2]) ∧ w = w' := by
  by_cases hl : 999999999999999999 < (lo : Int)
  · go_enter Tryz.func116, Tryz.ntmps116
    go_wp2
    go_ret2
    have : 999999999999999999 < lo := by omega
    refine ⟨ret_ib ?_ ?_, rfl⟩ <;> simp [Tab.made, this]
  · have hn : ¬ 999999999999999999 < lo := by omega
    cases minus
    · go_enter Tryz.func116, Tryz.ntmps116
      go_wp2
      go_ret2
      refine ⟨ret_ib ?_ ?_, rfl⟩ <;> simp [Tab.made, hn]
    · go_enter Tryz.func116, Tryz.ntmps116
      go_wp2
      go_ret2
      refine ⟨ret_ib ?_ ?_, rfl⟩ <;> simp [Tab.made, hn]

theorem good_any (a : Int) (w : World) : Calls Tryz.prog 124 #[.int .i64 a] w fun e w' => e = .returned (.bool (decide (-999999999999999999 ≤ a ∧ a ≤ 999999999999999999))) ∧ w = w' := by
  by_cases h1 : -999999999999999999 ≤ a
  · go_enter Tryz.func124, Tryz.ntmps124
    go_wp2
    go_ret
    refine ⟨ret_bool ?_, rfl⟩; simp [h1]
  · go_enter Tryz.func124, Tryz.ntmps124
    go_wp2
    go_ret
    have : ¬ (-999999999999999999 ≤ a) := by omega
    refine ⟨ret_bool ?_, rfl⟩; simp [this]

theorem abs_any (a : Int) (w : World) (h0 : -4000000000000000000 ≤ a) (h1 : a ≤ 4000000000000000000) :
    Calls Tryz.prog 41 #[.int .i64 a] w fun e w' => e = .returned (.int .i64 (a.natAbs : Int)) ∧ w = w' := by
  by_cases hn : a < 0
  · go_enter Tryz.func41, Tryz.ntmps41
    go_wp2
    go_ret
    exact ⟨ret_int (by omega), rfl⟩
  · go_enter Tryz.func41, Tryz.ntmps41
    go_wp2
    go_ret
    exact ⟨ret_int (by omega), rfl⟩

theorem add_any (a b : Int) (w : World) (h : -2000000000000000000 ≤ a + b ∧ a + b ≤ 2000000000000000000) :
    Calls Tryz.prog 93 #[.int .i64 a, .int .i64 b] w fun e w' => e = .returned (.tuple #[.int .i64 (Tab.fit (a + b)).1, .bool (Tab.fit (a + b)).2]) ∧ w = w' := by
  obtain ⟨h0, h1⟩ := h
  rw [← Tab.made_fit]
  go_enter Tryz.func93, Tryz.ntmps93
  go_wp2_with (first
    | (go_at_call 115; refine (size_any (a + b) _ (by omega) (by omega)).mono ?_; rintro e w' ⟨rfl, rfl⟩)
    | (go_at_call 116; refine (made_any _ _ _ (by omega)).mono ?_; rintro e w' ⟨rfl, rfl⟩))
  go_ret2
  exact ⟨rfl, rfl⟩

theorem sub_any (a b : Int) (w : World) (h : -2000000000000000000 ≤ a - b ∧ a - b ≤ 2000000000000000000) :
    Calls Tryz.prog 94 #[.int .i64 a, .int .i64 b] w fun e w' => e = .returned (.tuple #[.int .i64 (Tab.fit (a - b)).1, .bool (Tab.fit (a - b)).2]) ∧ w = w' := by
  obtain ⟨h0, h1⟩ := h
  rw [← Tab.made_fit]
  go_enter Tryz.func94, Tryz.ntmps94
  go_wp2_with (first
    | (go_at_call 115; refine (size_any (a - b) _ (by omega) (by omega)).mono ?_; rintro e w' ⟨rfl, rfl⟩)
    | (go_at_call 116; refine (made_any _ _ _ (by omega)).mono ?_; rintro e w' ⟨rfl, rfl⟩))
  go_ret2
  exact ⟨rfl, rfl⟩

theorem mod_any (a b : Int) (w : World) (hb : -999999999999999999 ≤ b ∧ b ≤ 999999999999999999) (h0 : b ≠ 0) :
    Calls Tryz.prog 52 #[.int .i64 a, .int .i64 b] w fun e w' => e = .returned (.tuple #[.int .i64 (Int.fmod a b), .bool true]) ∧ w = w' := by
  have hb0 : (b == 0) = false := by simp [h0]
  obtain ⟨t1, t2⟩ := Tab.tmod_bd a b h0 hb
  obtain ⟨f1, f2, f3⟩ := Tab.fmod_of a b h0
  obtain ⟨b1, b2⟩ := hb
  have F1 := Lib.hid f1
  have F2 := Lib.hid f2
  have F3 := Lib.hid f3
  clear f1 f2 f3
  by_cases hz : a.tmod b = 0
  · have hz' : (a.tmod b != 0) = false := by simp [hz]
    go_enter Tryz.func52, Tryz.ntmps52
    go_wp2
    all_goals go_ret2
    exact ⟨ret_ib (by rw [F1.out hz]) rfl, rfl⟩
  · have hz' : (a.tmod b != 0) = true := by simp [hz]
    by_cases hs : (a.tmod b < 0) ↔ (b < 0)
    · have hs' : (!decide (a.tmod b < 0) == decide (b < 0)) = false := by simp [hs]
      go_enter Tryz.func52, Tryz.ntmps52
      go_wp2
      go_ret2
      exact ⟨ret_ib (by rw [F2.out hz hs]) rfl, rfl⟩
    · have hs' : (!decide (a.tmod b < 0) == decide (b < 0)) = true := by
        simp only [Bool.not_eq_true', beq_eq_false_iff_ne, ne_eq, decide_eq_decide]; exact hs
      go_enter Tryz.func52, Tryz.ntmps52
      go_wp2
      go_ret2
      exact ⟨ret_ib (by rw [F3.out hz hs]) rfl, rfl⟩
theorem mod_zero (a : Int) (w : World) : Calls Tryz.prog 52 #[.int .i64 a, .int .i64 0] w fun e w' => e = .returned (.tuple #[.int .i64 0, .bool false]) ∧ w = w' := by
  go_enter Tryz.func52, Tryz.ntmps52
  go_wp2
  go_ret2
  exact ⟨rfl, rfl⟩

theorem floor_any (a s : Int) (w : World) (ha : -999999999999999999 ≤ a ∧ a ≤ 999999999999999999) (hs : 0 < s ∧ s ≤ 999999999999999999) :
    Calls Tryz.prog 44 #[.int .i64 a, .int .i64 s] w fun e w' => e = .returned (.tuple #[.int .i64 (Tab.fit (a - a % s)).1, .bool (Tab.fit (a - a % s)).2]) ∧ w = w' := by
  obtain ⟨a0, a1⟩ := ha
  obtain ⟨s0, s1⟩ := hs
  have m0 := Int.emod_nonneg a (show s ≠ 0 by omega)
  have m1 := Int.emod_lt_of_pos a s0
  have hf : Int.fmod a s = a % s := Int.fmod_eq_emod_of_nonneg a (by omega)
  have hm := mod_any a s w ⟨by omega, s1⟩ (by omega)
  rw [hf] at hm
  have HM := Lib.hid hm
  clear hf hm
  go_enter Tryz.func44, Tryz.ntmps44
  go_wp2_with (first
    | (go_at_call 52; refine HM.out.mono ?_; rintro e w' ⟨rfl, rfl⟩)
    | (go_at_call 94; refine (sub_any _ _ _ (by omega)).mono ?_; rintro e w' ⟨rfl, rfl⟩))
  go_ret2
  exact ⟨rfl, rfl⟩
theorem floor_no (a s : Int) (w : World) (hs : s ≤ 0) :
    Calls Tryz.prog 44 #[.int .i64 a, .int .i64 s] w fun e w' => e = .returned (.tuple #[.int .i64 0, .bool false]) ∧ w = w' := by
  go_enter Tryz.func44, Tryz.ntmps44
  go_wp2
  go_ret2
  exact ⟨rfl, rfl⟩
theorem ceil_any (a s : Int) (w : World) (ha : -999999999999999999 ≤ a ∧ a ≤ 999999999999999999) (hs : 0 < s ∧ s ≤ 999999999999999999) :
    Calls Tryz.prog 119 #[.int .i64 a, .int .i64 s] w fun e w' => e = .returned (.tuple #[.int .i64 (-(Tab.fit (-a - (-a) % s)).1), .bool (Tab.fit (-a - (-a) % s)).2]) ∧ w = w' := by
  obtain ⟨a0, a1⟩ := ha
  have hb : -999999999999999999 ≤ (Tab.fit (-a - (-a) % s)).1 ∧ (Tab.fit (-a - (-a) % s)).1 ≤ 999999999999999999 := by unfold Tab.fit; split <;> simp <;> omega
  obtain ⟨b0, b1⟩ := hb
  go_enter Tryz.func119, Tryz.ntmps119
  go_wp2_with (first
    | (go_at_call 44; refine (floor_any _ _ _ (by omega) hs).mono ?_; rintro e w' ⟨rfl, rfl⟩))
  go_ret2
  exact ⟨rfl, rfl⟩
theorem ceil_no (a s : Int) (w : World) (ha : -999999999999999999 ≤ a ∧ a ≤ 999999999999999999) (hs : s ≤ 0) :
    Calls Tryz.prog 119 #[.int .i64 a, .int .i64 s] w fun e w' => e = .returned (.tuple #[.int .i64 0, .bool false]) ∧ w = w' := by
  obtain ⟨a0, a1⟩ := ha
  go_enter Tryz.func119, Tryz.ntmps119
  go_wp2_with (first
    | (go_at_call 44; refine (floor_no _ _ _ hs).mono ?_; rintro e w' ⟨rfl, rfl⟩))
  go_ret2
  exact ⟨rfl, rfl⟩
theorem sign_any (a : Int) (w : World) : Calls Tryz.prog 42 #[.int .i64 a] w fun e w' => e = .returned (.int .i64 a.sign) ∧ w = w' := by
  rcases Int.lt_trichotomy a 0 with h | h | h
  · go_enter Tryz.func42, Tryz.ntmps42
    go_wp2
    go_ret
    exact ⟨ret_int (Int.sign_eq_neg_one_of_neg h).symm, rfl⟩
  · subst h
    go_enter Tryz.func42, Tryz.ntmps42
    go_wp2
    go_ret
    exact ⟨ret_int rfl, rfl⟩
  · go_enter Tryz.func42, Tryz.ntmps42
    go_wp2
    go_ret
    exact ⟨ret_int (Int.sign_eq_one_of_pos h).symm, rfl⟩
theorem whole_any (a : Int) (w : World) (h0 : -999999999999999999 ≤ a) (h1 : a ≤ 999999999999999999) : Calls Tryz.prog 114 #[.int .i64 a] w fun e w' => e = .returned (.int .i64 (a.tdiv 10000)) ∧ w = w' := by
  go_enter Tryz.func114, Tryz.ntmps114
  go_wp2
  go_ret
  exact ⟨ret_int rfl, rfl⟩
theorem isInt_any (a : Int) (w : World) : Calls Tryz.prog 121 #[.int .i64 a] w fun e w' => e = .returned (.bool (a.tmod 10000 == 0)) ∧ w = w' := by
  go_enter Tryz.func121, Tryz.ntmps121
  go_wp2
  go_ret
  exact ⟨rfl, rfl⟩
/-- the library's bound on short searches holds some number -/
def GM (w : World) : Prop := ∃ m, w.cell? ⟨1, 0, none⟩ = some (.int .i64 m)
/-- strconv's powers of ten, as the program's text lays them -/
def GP (w : World) : Prop := Lib.TabIs Tryz.prog w "internal/strconv.uint64pow10" .u64 Lib.pow10Tab
/-- deci.tens, as the program's text lays it -/
def GT (w : World) : Prop := ∃ b o c, w.cell? ⟨0, 0, none⟩ = some (.slice (some ⟨b, o, none⟩) 19 c) ∧ b < w.heap.size ∧ ∀ i : Nat, i < 19 → w.cell? ⟨b, o + i, none⟩ = some (.int .u64 ((10 ^ i : Nat) : Int))
theorem lt_of_cell {w : World} {b o : Nat} {v : Value} (h : w.cell? ⟨b, o, none⟩ = some v) : b < w.heap.size := by
  rcases Nat.lt_or_ge b w.heap.size with h' | h'
  · exact h'
  · simp [World.cell?, Array.getElem?_eq_none h'] at h
theorem GM.below {w w' : World} (h : GM w) (hb : Below w.heap.size w w') : GM w' := by
  obtain ⟨m, hm⟩ := h
  exact ⟨m, by rw [hb.cell (p := ⟨1, 0, none⟩) (lt_of_cell hm)]; exact hm⟩
theorem GP.below {w w' : World} (h : GP w) (hb : Below w.heap.size w w') : GP w' :=
  var?_below hb (show Tryz.prog.globalNamed "internal/strconv.uint64pow10" = some 6 by kernel_rfl) (lt_of_cell (h.cell (show Tryz.prog.globalNamed "internal/strconv.uint64pow10" = some 6 by kernel_rfl) 0 (by decide))) h
theorem GT.below {w w' : World} (h : GT w) (hb : Below w.heap.size w w') : GT w' := by
  obtain ⟨b, o, c, h0, h1, h2⟩ := h
  refine ⟨b, o, c, ?_, Nat.lt_of_lt_of_le h1 hb.size, fun i hi => ?_⟩
  · rw [hb.cell (p := ⟨0, 0, none⟩) (lt_of_cell h0)]; exact h0
  · rw [hb.cell (p := ⟨b, o + i, none⟩) h1]; exact h2 i hi

theorem unit_any (p : Int) (w : World) (hG : GT w) (h : -14 ≤ p ∧ p < 4) :
    Calls Tryz.prog 113 #[.int .i64 p] w fun e w' => e = .returned (.tuple #[.int .u64 ((10 ^ (4 - p).toNat : Nat) : Int), .bool true]) ∧ w = w' := by
  obtain ⟨p0, p1⟩ := h
  obtain ⟨b, o, c, h0, h1, h2⟩ := hG
  have hc := h2 (4 - p).toNat (by omega)
  clear h2
  go_enter Tryz.func113, Tryz.ntmps113
  go_wp2
  go_ret2
  exact ⟨rfl, rfl⟩
theorem unit_no (p : Int) (w : World) (h : p < -14 ∨ 4 ≤ p) :
    Calls Tryz.prog 113 #[.int .i64 p] w fun e w' => e = .returned (.tuple #[.int .u64 0, .bool false]) ∧ w = w' := by
  by_cases h4 : 4 ≤ p
  · go_enter Tryz.func113, Tryz.ntmps113
    go_wp2
    go_ret2
    exact ⟨rfl, rfl⟩
  · have : p < -14 := by omega
    clear h
    go_enter Tryz.func113, Tryz.ntmps113
    go_wp2
    go_ret2
    exact ⟨rfl, rfl⟩
theorem made_int (minus : Bool) (lo : Int) (w : World) (h0 : 0 ≤ lo) (h : lo ≤ 4000000000000000000) :
    Calls Tryz.prog 116 #[.bool minus, .int .u64 0, .int .u64 lo] w fun e w' => e = .returned (.tuple #[.int .i64 (Tab.made minus lo.toNat).1, .bool (Tab.made minus lo.toNat).2]) ∧ w = w' := by
  obtain ⟨n, rfl⟩ := Int.eq_ofNat_of_zero_le h0
  exact made_any minus n w (by omega)

theorem trunc_any (a p : Int) (w : World) (hG : GT w) (h : -999999999999999999 ≤ a ∧ a ≤ 999999999999999999) :
    Calls Tryz.prog 45 #[.int .i64 a, .int .i64 p] w fun e w' => e = .returned (.int .i64 (Tab.truncS a p)) ∧ w = w' := by
  obtain ⟨h0, h1⟩ := h
  by_cases hl : p < -14
  · have e : Tab.truncS a p = 0 := by unfold Tab.truncS; rw [if_pos hl]
    rw [e]
    clear e hG
    go_enter Tryz.func45, Tryz.ntmps45
    go_wp2
    go_ret
    exact ⟨rfl, rfl⟩
  · by_cases hg : 4 ≤ p
    · have e : Tab.truncS a p = a := by unfold Tab.truncS; rw [if_neg hl, if_pos hg]
      rw [e]
      clear e hG
      go_enter Tryz.func45, Tryz.ntmps45
      go_wp2_with (first
        | (go_at_call 113; refine (unit_no p _ (by omega)).mono ?_; rintro e w' ⟨rfl, rfl⟩))
      go_ret
      exact ⟨rfl, rfl⟩
    · have e : Tab.truncS a p = a - a.tmod ((10 ^ (4 - p).toNat : Nat) : Int) := by unfold Tab.truncS; rw [if_neg hl, if_neg hg]
      rw [e]
      obtain ⟨u0, u1⟩ := Tab.ten_pow_bd (4 - p).toNat (by omega)
      have hu := unit_any p w hG (by omega)
      generalize 10 ^ (4 - p).toNat = u at *
      have t1 : -999999999999999999 ≤ a - a.tmod (u : Int) ∧ a - a.tmod (u : Int) ≤ 999999999999999999 := by
        have h2 := Tab.tmod_sub a u
        by_cases hn : 0 ≤ a
        · have := h2.1 hn; omega
        · have := h2.2 (by omega); omega
      obtain ⟨t2, t3⟩ := t1
      have hu1 : (1 : Int) ≤ u := by omega
      have hu2 : (u : Int) ≤ 1000000000000000000 := by omega
      have HU := Lib.hid hu
      clear e hG hu u0 u1
      go_enter Tryz.func45, Tryz.ntmps45
      go_wp2_with (first
        | (go_at_call 113; refine HU.out.mono ?_; rintro e w' ⟨rfl, rfl⟩))
      go_ret
      exact ⟨rfl, rfl⟩

theorem round_any (a p : Int) (w : World) (hG : GT w) (h : -999999999999999999 ≤ a ∧ a ≤ 999999999999999999) :
    Calls Tryz.prog 47 #[.int .i64 a, .int .i64 p] w fun e w' => e = .returned (.tuple #[.int .i64 (Tab.roundS a p).1, .bool (Tab.roundS a p).2]) ∧ w = w' := by
  obtain ⟨h0, h1⟩ := h
  by_cases hl : p < -14
  · have e : Tab.roundS a p = (0, true) := by unfold Tab.roundS; rw [if_pos hl]
    rw [e]
    clear e hG
    go_enter Tryz.func47, Tryz.ntmps47
    go_wp2
    go_ret2
    exact ⟨rfl, rfl⟩
  · by_cases hg : 4 ≤ p
    · have e : Tab.roundS a p = (a, true) := by unfold Tab.roundS; rw [if_neg hl, if_pos hg]
      rw [e]
      clear e hG
      go_enter Tryz.func47, Tryz.ntmps47
      go_wp2_with (first
        | (go_at_call 113; refine (unit_no p _ (by omega)).mono ?_; rintro e w' ⟨rfl, rfl⟩))
      go_ret2
      exact ⟨rfl, rfl⟩
    · have e : Tab.roundS a p = Tab.made (decide (a < 0)) (Tab.rsize a.natAbs (10 ^ (4 - p).toNat)) := by unfold Tab.roundS; rw [if_neg hl, if_neg hg]
      rw [e]
      obtain ⟨u0, u1⟩ := Tab.ten_pow_bd (4 - p).toNat (by omega)
      have hu := unit_any p w hG (by omega)
      generalize 10 ^ (4 - p).toNat = u at *
      have hu1 : (1 : Int) ≤ u := by omega
      have hu2 : (u : Int) ≤ 1000000000000000000 := by omega
      have HU := Lib.hid hu
      have m1 := Nat.mod_lt a.natAbs (show 0 < u by omega)
      have m2 := Nat.mod_le a.natAbs u
      have s1 : a.natAbs ≤ 999999999999999999 := by omega
      clear e hG hu u0 u1
      have n0 : (0 : Int) ≤ (a.natAbs : Int) % (u : Int) := by omega
      have n1 : (a.natAbs : Int) % (u : Int) < u := by omega
      have n2 : (a.natAbs : Int) % (u : Int) ≤ a.natAbs := by omega
      have n3 : (a.natAbs : Int) ≤ 999999999999999999 := by omega
      by_cases hr : (u : Int) - (a.natAbs : Int) % (u : Int) ≤ (a.natAbs : Int) % (u : Int)
      · have hsz : Tab.rsize a.natAbs u = a.natAbs - a.natAbs % u + u := by
          unfold Tab.rsize
          rw [if_pos (by omega)]
        have HS := Lib.hid hsz
        clear hsz m1 m2 s1
        go_enter Tryz.func47, Tryz.ntmps47
        go_wp2_with (first
          | (go_at_call 113; refine HU.out.mono ?_; rintro e w' ⟨rfl, rfl⟩)
          | (go_at_call 115; refine (size_any a _ (by omega) (by omega)).mono ?_; rintro e w' ⟨rfl, rfl⟩)
          | (go_at_call 116; refine (made_int _ _ _ (by omega) (by omega)).mono ?_; rintro e w' ⟨rfl, rfl⟩))
        go_ret2
        exact ⟨by rw [HS.out]; rfl, rfl⟩
      · have hsz : Tab.rsize a.natAbs u = a.natAbs - a.natAbs % u := by
          unfold Tab.rsize
          rw [if_neg (by omega)]; omega
        have HS := Lib.hid hsz
        clear hsz m1 m2 s1
        go_enter Tryz.func47, Tryz.ntmps47
        go_wp2_with (first
          | (go_at_call 113; refine HU.out.mono ?_; rintro e w' ⟨rfl, rfl⟩)
          | (go_at_call 115; refine (size_any a _ (by omega) (by omega)).mono ?_; rintro e w' ⟨rfl, rfl⟩)
          | (go_at_call 116; refine (made_int _ _ _ (by omega) (by omega)).mono ?_; rintro e w' ⟨rfl, rfl⟩))
        go_ret2
        exact ⟨by rw [HS.out]; rfl, rfl⟩

end Go.Proofs.YtkobkeopajohiaaGreatDoor
