/-
  CONTRACTS of package deci's functions of numbers: what each answers, for every number within the bounds that stand at it; the powers of ten are read as the program's text lays them (Glob).
  CONTRACT of deci.Sqrt: the whole root, bit by bit, for every number from 0 to Most.
  CONTRACTS of strconv.FormatUint at base 10 and of deci.Text: a number's text, for every number from -Most to Most; memory that was there stays as it was.
  CONTRACT of deci.Parse: the number that is all of a text, for every text shorter than 4294967281 bytes; memory that was there stays as it was.
  CONTRACT of the law's helper 'awake' of layer 1: it answers true, in every world that lays the program's tables.
-/
import Derived.Test.YtkobkeopajohiaaGreatDoorShelf
import Derived.Test.YtkobkeopajohiaaGreatDoorPL
import Derived.WalkKit
import Derived.Below
import Derived.OwnWalk
import Derived.WalkSpells
import Derived.WalkLawsBesides
import Derived.WalkSmall
import Derived.Lib.Hide
import Derived.Laws.Bits64b
import Derived.LoopTactic
import Derived.Lib.ItoaMem
import Derived.BigCall
import Derived.BigGuard
import Derived.Lib.ConvBytes
import Derived.Deep.QuietTactic
import Derived.BigQuiet
import Derived.Deep.RegionWith
namespace Go.Proofs.YtkobkeopajohiaaGreatDoor
open Go.RowKit

theorem ret_int {k : IntKind} {a b : Int} (h : a = b) : Ending.returned (.int k a) = .returned (.int k b) := by rw [h]
theorem ret_bool {a b : Bool} (h : a = b) : Ending.returned (.bool a) = .returned (.bool b) := by rw [h]
theorem ret_ib {k : IntKind} {a b : Int} {p q : Bool} (h : a = b) (h' : p = q) : Ending.returned (.tuple #[.int k a, .bool p]) = .returned (.tuple #[.int k b, .bool q]) := by rw [h, h']

theorem size_any (a : Int) (w : World) (h0 : -4000000000000000000 ≤ a) (h1 : a ≤ 4000000000000000000) :
    Calls Tryz.prog 115 #[.int .i64 a] w fun e w' => e = .returned (.int .u64 (a.natAbs : Int)) ∧ w = w' := by
  by_cases hn : a < 0
  · go_enter Tryz.func115, Tryz.ntmps115
    go_wp2
    go_ret
    exact ⟨ret_int (by omega), rfl⟩
  · go_enter Tryz.func115, Tryz.ntmps115
    go_wp2
    go_ret
    exact ⟨ret_int (by omega), rfl⟩

theorem made_any (minus : Bool) (lo : Nat) (w : World) (h : lo ≤ 4000000000000000000) :
    Calls Tryz.prog 116 #[.bool minus, .int .u64 0, .int .u64 lo] w fun e w' => e = .returned (.tuple #[.int .i64 (Tab.made minus lo).1, .bool (Tab.made minus lo).2]) ∧ w = w' := by
  by_cases hl : 999999999999999999 < (lo : Int)
  · go_enter Tryz.func116, Tryz.ntmps116
    go_wp2
    go_ret2
    have : 999999999999999999 < lo := by omega
    refine ⟨ret_ib ?_ ?_, rfl⟩ <;> simp [Tab.made, this]
  · have hn : ¬ 999999999999999999 < lo := by omega
    cases minus
    · go_enter Tryz.func116, Tryz.ntmps116
      go_wp2
      go_ret2
      refine ⟨ret_ib ?_ ?_, rfl⟩ <;> simp [Tab.made, hn]
    · go_enter Tryz.func116, Tryz.ntmps116
      go_wp2
      go_ret2
      refine ⟨ret_ib ?_ ?_, rfl⟩ <;> simp [Tab.made, hn]

theorem good_any (a : Int) (w : World) : Calls Tryz.prog 124 #[.int .i64 a] w fun e w' => e = .returned (.bool (decide (-999999999999999999 ≤ a ∧ a ≤ 999999999999999999))) ∧ w = w' := by
  by_cases h1 : -999999999999999999 ≤ a
  · go_enter Tryz.func124, Tryz.ntmps124
    go_wp2
    go_ret
    refine ⟨ret_bool ?_, rfl⟩; simp [h1]
  · go_enter Tryz.func124, Tryz.ntmps124
    go_wp2
    go_ret
    have : ¬ (-999999999999999999 ≤ a) := by omega
    refine ⟨ret_bool ?_, rfl⟩; simp [this]

theorem abs_any (a : Int) (w : World) (h0 : -4000000000000000000 ≤ a) (h1 : a ≤ 4000000000000000000) :
    Calls Tryz.prog 41 #[.int .i64 a] w fun e w' => e = .returned (.int .i64 (a.natAbs : Int)) ∧ w = w' := by
  by_cases hn : a < 0
  · go_enter Tryz.func41, Tryz.ntmps41
    go_wp2
    go_ret
    exact ⟨ret_int (by omega), rfl⟩
  · go_enter Tryz.func41, Tryz.ntmps41
    go_wp2
    go_ret
    exact ⟨ret_int (by omega), rfl⟩

theorem add_any (a b : Int) (w : World) (h : -2000000000000000000 ≤ a + b ∧ a + b ≤ 2000000000000000000) :
    Calls Tryz.prog 93 #[.int .i64 a, .int .i64 b] w fun e w' => e = .returned (.tuple #[.int .i64 (Tab.fit (a + b)).1, .bool (Tab.fit (a + b)).2]) ∧ w = w' := by
  obtain ⟨h0, h1⟩ := h
  rw [← Tab.made_fit]
  go_enter Tryz.func93, Tryz.ntmps93
  go_wp2_with (first
    | (go_at_call 115; refine (size_any (a + b) _ (by omega) (by omega)).mono ?_; rintro e w' ⟨rfl, rfl⟩)
    | (go_at_call 116; refine (made_any _ _ _ (by omega)).mono ?_; rintro e w' ⟨rfl, rfl⟩))
  go_ret2
  exact ⟨rfl, rfl⟩

theorem sub_any (a b : Int) (w : World) (h : -2000000000000000000 ≤ a - b ∧ a - b ≤ 2000000000000000000) :
    Calls Tryz.prog 94 #[.int .i64 a, .int .i64 b] w fun e w' => e = .returned (.tuple #[.int .i64 (Tab.fit (a - b)).1, .bool (Tab.fit (a - b)).2]) ∧ w = w' := by
  obtain ⟨h0, h1⟩ := h
  rw [← Tab.made_fit]
  go_enter Tryz.func94, Tryz.ntmps94
  go_wp2_with (first
    | (go_at_call 115; refine (size_any (a - b) _ (by omega) (by omega)).mono ?_; rintro e w' ⟨rfl, rfl⟩)
    | (go_at_call 116; refine (made_any _ _ _ (by omega)).mono ?_; rintro e w' ⟨rfl, rfl⟩))
  go_ret2
  exact ⟨rfl, rfl⟩

theorem mod_any (a b : Int) (w : World) (hb : -999999999999999999 ≤ b ∧ b ≤ 999999999999999999) (h0 : b ≠ 0) :
    Calls Tryz.prog 52 #[.int .i64 a, .int .i64 b] w fun e w' => e = .returned (.tuple #[.int .i64 (Int.fmod a b), .bool true]) ∧ w = w' := by
  have hb0 : (b == 0) = false := by simp [h0]
  obtain ⟨t1, t2⟩ := Tab.tmod_bd a b h0 hb
  obtain ⟨f1, f2, f3⟩ := Tab.fmod_of a b h0
  obtain ⟨b1, b2⟩ := hb
  have F1 := Lib.hid f1
  have F2 := Lib.hid f2
  have F3 := Lib.hid f3
  clear f1 f2 f3
  by_cases hz : a.tmod b = 0
  · have hz' : (a.tmod b != 0) = false := by simp [hz]
    go_enter Tryz.func52, Tryz.ntmps52
    go_wp2
    all_goals go_ret2
    exact ⟨ret_ib (by rw [F1.out hz]) rfl, rfl⟩
  · have hz' : (a.tmod b != 0) = true := by simp [hz]
    by_cases hs : (a.tmod b < 0) ↔ (b < 0)
    · have hs' : (!decide (a.tmod b < 0) == decide (b < 0)) = false := by simp [hs]
      go_enter Tryz.func52, Tryz.ntmps52
      go_wp2
      go_ret2
      exact ⟨ret_ib (by rw [F2.out hz hs]) rfl, rfl⟩
    · have hs' : (!decide (a.tmod b < 0) == decide (b < 0)) = true := by
        simp only [Bool.not_eq_true', beq_eq_false_iff_ne, ne_eq, decide_eq_decide]; exact hs
      go_enter Tryz.func52, Tryz.ntmps52
      go_wp2
      go_ret2
      exact ⟨ret_ib (by rw [F3.out hz hs]) rfl, rfl⟩
theorem mod_zero (a : Int) (w : World) : Calls Tryz.prog 52 #[.int .i64 a, .int .i64 0] w fun e w' => e = .returned (.tuple #[.int .i64 0, .bool false]) ∧ w = w' := by
  go_enter Tryz.func52, Tryz.ntmps52
  go_wp2
  go_ret2
  exact ⟨rfl, rfl⟩

theorem floor_any (a s : Int) (w : World) (ha : -999999999999999999 ≤ a ∧ a ≤ 999999999999999999) (hs : 0 < s ∧ s ≤ 999999999999999999) :
    Calls Tryz.prog 44 #[.int .i64 a, .int .i64 s] w fun e w' => e = .returned (.tuple #[.int .i64 (Tab.fit (a - a % s)).1, .bool (Tab.fit (a - a % s)).2]) ∧ w = w' := by
  obtain ⟨a0, a1⟩ := ha
  obtain ⟨s0, s1⟩ := hs
  have m0 := Int.emod_nonneg a (show s ≠ 0 by omega)
  have m1 := Int.emod_lt_of_pos a s0
  have hf : Int.fmod a s = a % s := Int.fmod_eq_emod_of_nonneg a (by omega)
  have hm := mod_any a s w ⟨by omega, s1⟩ (by omega)
  rw [hf] at hm
  have HM := Lib.hid hm
  clear hf hm
  go_enter Tryz.func44, Tryz.ntmps44
  go_wp2_with (first
    | (go_at_call 52; refine HM.out.mono ?_; rintro e w' ⟨rfl, rfl⟩)
    | (go_at_call 94; refine (sub_any _ _ _ (by omega)).mono ?_; rintro e w' ⟨rfl, rfl⟩))
  go_ret2
  exact ⟨rfl, rfl⟩
theorem floor_no (a s : Int) (w : World) (hs : s ≤ 0) :
    Calls Tryz.prog 44 #[.int .i64 a, .int .i64 s] w fun e w' => e = .returned (.tuple #[.int .i64 0, .bool false]) ∧ w = w' := by
  go_enter Tryz.func44, Tryz.ntmps44
  go_wp2
  go_ret2
  exact ⟨rfl, rfl⟩
theorem ceil_any (a s : Int) (w : World) (ha : -999999999999999999 ≤ a ∧ a ≤ 999999999999999999) (hs : 0 < s ∧ s ≤ 999999999999999999) :
    Calls Tryz.prog 119 #[.int .i64 a, .int .i64 s] w fun e w' => e = .returned (.tuple #[.int .i64 (-(Tab.fit (-a - (-a) % s)).1), .bool (Tab.fit (-a - (-a) % s)).2]) ∧ w = w' := by
  obtain ⟨a0, a1⟩ := ha
  have hb : -999999999999999999 ≤ (Tab.fit (-a - (-a) % s)).1 ∧ (Tab.fit (-a - (-a) % s)).1 ≤ 999999999999999999 := by unfold Tab.fit; split <;> simp <;> omega
  obtain ⟨b0, b1⟩ := hb
  go_enter Tryz.func119, Tryz.ntmps119
  go_wp2_with (first
    | (go_at_call 44; refine (floor_any _ _ _ (by omega) hs).mono ?_; rintro e w' ⟨rfl, rfl⟩))
  go_ret2
  exact ⟨rfl, rfl⟩
theorem ceil_no (a s : Int) (w : World) (ha : -999999999999999999 ≤ a ∧ a ≤ 999999999999999999) (hs : s ≤ 0) :
    Calls Tryz.prog 119 #[.int .i64 a, .int .i64 s] w fun e w' => e = .returned (.tuple #[.int .i64 0, .bool false]) ∧ w = w' := by
  obtain ⟨a0, a1⟩ := ha
  go_enter Tryz.func119, Tryz.ntmps119
  go_wp2_with (first
    | (go_at_call 44; refine (floor_no _ _ _ hs).mono ?_; rintro e w' ⟨rfl, rfl⟩))
  go_ret2
  exact ⟨rfl, rfl⟩
theorem sign_any (a : Int) (w : World) : Calls Tryz.prog 42 #[.int .i64 a] w fun e w' => e = .returned (.int .i64 a.sign) ∧ w = w' := by
  rcases Int.lt_trichotomy a 0 with h | h | h
  · go_enter Tryz.func42, Tryz.ntmps42
    go_wp2
    go_ret
    exact ⟨ret_int (Int.sign_eq_neg_one_of_neg h).symm, rfl⟩
  · subst h
    go_enter Tryz.func42, Tryz.ntmps42
    go_wp2
    go_ret
    exact ⟨ret_int rfl, rfl⟩
  · go_enter Tryz.func42, Tryz.ntmps42
    go_wp2
    go_ret
    exact ⟨ret_int (Int.sign_eq_one_of_pos h).symm, rfl⟩
theorem whole_any (a : Int) (w : World) (h0 : -999999999999999999 ≤ a) (h1 : a ≤ 999999999999999999) : Calls Tryz.prog 114 #[.int .i64 a] w fun e w' => e = .returned (.int .i64 (a.tdiv 10000)) ∧ w = w' := by
  go_enter Tryz.func114, Tryz.ntmps114
  go_wp2
  go_ret
  exact ⟨ret_int rfl, rfl⟩
theorem isInt_any (a : Int) (w : World) : Calls Tryz.prog 121 #[.int .i64 a] w fun e w' => e = .returned (.bool (a.tmod 10000 == 0)) ∧ w = w' := by
  go_enter Tryz.func121, Tryz.ntmps121
  go_wp2
  go_ret
  exact ⟨rfl, rfl⟩
/-- the library's bound on short searches holds some number -/
def GM (w : World) : Prop := ∃ m, w.cell? ⟨1, 0, none⟩ = some (.int .i64 m)
/-- strconv's powers of ten, as the program's text lays them -/
def GP (w : World) : Prop := Lib.TabIs Tryz.prog w "internal/strconv.uint64pow10" .u64 Lib.pow10Tab
/-- deci.tens, as the program's text lays it -/
def GT (w : World) : Prop := ∃ b o c, w.cell? ⟨0, 0, none⟩ = some (.slice (some ⟨b, o, none⟩) 19 c) ∧ b < w.heap.size ∧ ∀ i : Nat, i < 19 → w.cell? ⟨b, o + i, none⟩ = some (.int .u64 ((10 ^ i : Nat) : Int))
theorem lt_of_cell {w : World} {b o : Nat} {v : Value} (h : w.cell? ⟨b, o, none⟩ = some v) : b < w.heap.size := by
  rcases Nat.lt_or_ge b w.heap.size with h' | h'
  · exact h'
  · simp [World.cell?, Array.getElem?_eq_none h'] at h
theorem GM.below {w w' : World} (h : GM w) (hb : Below w.heap.size w w') : GM w' := by
  obtain ⟨m, hm⟩ := h
  exact ⟨m, by rw [hb.cell (p := ⟨1, 0, none⟩) (lt_of_cell hm)]; exact hm⟩
theorem GP.below {w w' : World} (h : GP w) (hb : Below w.heap.size w w') : GP w' :=
  var?_below hb (show Tryz.prog.globalNamed "internal/strconv.uint64pow10" = some 6 by kernel_rfl) (lt_of_cell (h.cell (show Tryz.prog.globalNamed "internal/strconv.uint64pow10" = some 6 by kernel_rfl) 0 (by decide))) h
theorem GT.below {w w' : World} (h : GT w) (hb : Below w.heap.size w w') : GT w' := by
  obtain ⟨b, o, c, h0, h1, h2⟩ := h
  refine ⟨b, o, c, ?_, Nat.lt_of_lt_of_le h1 hb.size, fun i hi => ?_⟩
  · rw [hb.cell (p := ⟨0, 0, none⟩) (lt_of_cell h0)]; exact h0
  · rw [hb.cell (p := ⟨b, o + i, none⟩) h1]; exact h2 i hi

theorem unit_any (p : Int) (w : World) (hG : GT w) (h : -14 ≤ p ∧ p < 4) :
    Calls Tryz.prog 113 #[.int .i64 p] w fun e w' => e = .returned (.tuple #[.int .u64 ((10 ^ (4 - p).toNat : Nat) : Int), .bool true]) ∧ w = w' := by
  obtain ⟨p0, p1⟩ := h
  obtain ⟨b, o, c, h0, h1, h2⟩ := hG
  have hc := h2 (4 - p).toNat (by omega)
  clear h2
  go_enter Tryz.func113, Tryz.ntmps113
  go_wp2
  go_ret2
  exact ⟨rfl, rfl⟩
theorem unit_no (p : Int) (w : World) (h : p < -14 ∨ 4 ≤ p) :
    Calls Tryz.prog 113 #[.int .i64 p] w fun e w' => e = .returned (.tuple #[.int .u64 0, .bool false]) ∧ w = w' := by
  by_cases h4 : 4 ≤ p
  · go_enter Tryz.func113, Tryz.ntmps113
    go_wp2
    go_ret2
    exact ⟨rfl, rfl⟩
  · have : p < -14 := by omega
    clear h
    go_enter Tryz.func113, Tryz.ntmps113
    go_wp2
    go_ret2
    exact ⟨rfl, rfl⟩
theorem made_int (minus : Bool) (lo : Int) (w : World) (h0 : 0 ≤ lo) (h : lo ≤ 4000000000000000000) :
    Calls Tryz.prog 116 #[.bool minus, .int .u64 0, .int .u64 lo] w fun e w' => e = .returned (.tuple #[.int .i64 (Tab.made minus lo.toNat).1, .bool (Tab.made minus lo.toNat).2]) ∧ w = w' := by
  obtain ⟨n, rfl⟩ := Int.eq_ofNat_of_zero_le h0
  exact made_any minus n w (by omega)

theorem trunc_any (a p : Int) (w : World) (hG : GT w) (h : -999999999999999999 ≤ a ∧ a ≤ 999999999999999999) :
    Calls Tryz.prog 45 #[.int .i64 a, .int .i64 p] w fun e w' => e = .returned (.int .i64 (Tab.truncS a p)) ∧ w = w' := by
  obtain ⟨h0, h1⟩ := h
  by_cases hl : p < -14
  · have e : Tab.truncS a p = 0 := by unfold Tab.truncS; rw [if_pos hl]
    rw [e]
    clear e hG
    go_enter Tryz.func45, Tryz.ntmps45
    go_wp2
    go_ret
    exact ⟨rfl, rfl⟩
  · by_cases hg : 4 ≤ p
    · have e : Tab.truncS a p = a := by unfold Tab.truncS; rw [if_neg hl, if_pos hg]
      rw [e]
      clear e hG
      go_enter Tryz.func45, Tryz.ntmps45
      go_wp2_with (first
        | (go_at_call 113; refine (unit_no p _ (by omega)).mono ?_; rintro e w' ⟨rfl, rfl⟩))
      go_ret
      exact ⟨rfl, rfl⟩
    · have e : Tab.truncS a p = a - a.tmod ((10 ^ (4 - p).toNat : Nat) : Int) := by unfold Tab.truncS; rw [if_neg hl, if_neg hg]
      rw [e]
      obtain ⟨u0, u1⟩ := Tab.ten_pow_bd (4 - p).toNat (by omega)
      have hu := unit_any p w hG (by omega)
      generalize 10 ^ (4 - p).toNat = u at *
      have t1 : -999999999999999999 ≤ a - a.tmod (u : Int) ∧ a - a.tmod (u : Int) ≤ 999999999999999999 := by
        have h2 := Tab.tmod_sub a u
        by_cases hn : 0 ≤ a
        · have := h2.1 hn; omega
        · have := h2.2 (by omega); omega
      obtain ⟨t2, t3⟩ := t1
      have hu1 : (1 : Int) ≤ u := by omega
      have hu2 : (u : Int) ≤ 1000000000000000000 := by omega
      have HU := Lib.hid hu
      clear e hG hu u0 u1
      go_enter Tryz.func45, Tryz.ntmps45
      go_wp2_with (first
        | (go_at_call 113; refine HU.out.mono ?_; rintro e w' ⟨rfl, rfl⟩))
      go_ret
      exact ⟨rfl, rfl⟩

theorem round_any (a p : Int) (w : World) (hG : GT w) (h : -999999999999999999 ≤ a ∧ a ≤ 999999999999999999) :
    Calls Tryz.prog 47 #[.int .i64 a, .int .i64 p] w fun e w' => e = .returned (.tuple #[.int .i64 (Tab.roundS a p).1, .bool (Tab.roundS a p).2]) ∧ w = w' := by
  obtain ⟨h0, h1⟩ := h
  by_cases hl : p < -14
  · have e : Tab.roundS a p = (0, true) := by unfold Tab.roundS; rw [if_pos hl]
    rw [e]
    clear e hG
    go_enter Tryz.func47, Tryz.ntmps47
    go_wp2
    go_ret2
    exact ⟨rfl, rfl⟩
  · by_cases hg : 4 ≤ p
    · have e : Tab.roundS a p = (a, true) := by unfold Tab.roundS; rw [if_neg hl, if_pos hg]
      rw [e]
      clear e hG
      go_enter Tryz.func47, Tryz.ntmps47
      go_wp2_with (first
        | (go_at_call 113; refine (unit_no p _ (by omega)).mono ?_; rintro e w' ⟨rfl, rfl⟩))
      go_ret2
      exact ⟨rfl, rfl⟩
    · have e : Tab.roundS a p = Tab.made (decide (a < 0)) (Tab.rsize a.natAbs (10 ^ (4 - p).toNat)) := by unfold Tab.roundS; rw [if_neg hl, if_neg hg]
      rw [e]
      obtain ⟨u0, u1⟩ := Tab.ten_pow_bd (4 - p).toNat (by omega)
      have hu := unit_any p w hG (by omega)
      generalize 10 ^ (4 - p).toNat = u at *
      have hu1 : (1 : Int) ≤ u := by omega
      have hu2 : (u : Int) ≤ 1000000000000000000 := by omega
      have HU := Lib.hid hu
      have m1 := Nat.mod_lt a.natAbs (show 0 < u by omega)
      have m2 := Nat.mod_le a.natAbs u
      have s1 : a.natAbs ≤ 999999999999999999 := by omega
      clear e hG hu u0 u1
      have n0 : (0 : Int) ≤ (a.natAbs : Int) % (u : Int) := by omega
      have n1 : (a.natAbs : Int) % (u : Int) < u := by omega
      have n2 : (a.natAbs : Int) % (u : Int) ≤ a.natAbs := by omega
      have n3 : (a.natAbs : Int) ≤ 999999999999999999 := by omega
      by_cases hr : (u : Int) - (a.natAbs : Int) % (u : Int) ≤ (a.natAbs : Int) % (u : Int)
      · have hsz : Tab.rsize a.natAbs u = a.natAbs - a.natAbs % u + u := by
          unfold Tab.rsize
          rw [if_pos (by omega)]
        have HS := Lib.hid hsz
        clear hsz m1 m2 s1
        go_enter Tryz.func47, Tryz.ntmps47
        go_wp2_with (first
          | (go_at_call 113; refine HU.out.mono ?_; rintro e w' ⟨rfl, rfl⟩)
          | (go_at_call 115; refine (size_any a _ (by omega) (by omega)).mono ?_; rintro e w' ⟨rfl, rfl⟩)
          | (go_at_call 116; refine (made_int _ _ _ (by omega) (by omega)).mono ?_; rintro e w' ⟨rfl, rfl⟩))
        go_ret2
        exact ⟨by rw [HS.out]; rfl, rfl⟩
      · have hsz : Tab.rsize a.natAbs u = a.natAbs - a.natAbs % u := by
          unfold Tab.rsize
          rw [if_neg (by omega)]; omega
        have HS := Lib.hid hsz
        clear hsz m1 m2 s1
        go_enter Tryz.func47, Tryz.ntmps47
        go_wp2_with (first
          | (go_at_call 113; refine HU.out.mono ?_; rintro e w' ⟨rfl, rfl⟩)
          | (go_at_call 115; refine (size_any a _ (by omega) (by omega)).mono ?_; rintro e w' ⟨rfl, rfl⟩)
          | (go_at_call 116; refine (made_int _ _ _ (by omega) (by omega)).mono ?_; rintro e w' ⟨rfl, rfl⟩))
        go_ret2
        exact ⟨by rw [HS.out]; rfl, rfl⟩

end Go.Proofs.YtkobkeopajohiaaGreatDoor
namespace Go.Proofs.YtkobkeopajohiaaGreatDoor
open Go.RowKit

theorem mul_is (x y : Nat) (hi lo : Int) (w : World) (hx : x < 18446744073709551616) (hy : y < 18446744073709551616) (_h0 : 0 ≤ hi) (h1 : 0 ≤ lo) (hlo : lo < 18446744073709551616) (h : ((x * y : Nat) : Int) = hi * 18446744073709551616 + lo) :
    Calls Tryz.prog 122 #[.int .u64 x, .int .u64 y] w fun e w' => e = .returned (.tuple #[.int .u64 hi, .int .u64 lo]) ∧ w = w' := by
  refine (Tryz.bits_Mul64 x y hx hy w).mono ?_
  rintro e w' ⟨rfl, rfl⟩
  refine ⟨?_, rfl⟩
  have a1 : ((x * y / 18446744073709551616 : Nat) : Int) = hi := by omega
  have a2 : ((x * y % 18446744073709551616 : Nat) : Int) = lo := by omega
  rw [a1, a2]

theorem sqrt_any (a : Int) (w : World) (h0 : 0 ≤ a) (h1 : a ≤ 999999999999999999) :
    Calls Tryz.prog 55 #[.int .i64 a] w fun e w' => e = .returned (.tuple #[.int .i64 (Tab.sqrtS a : Int), .bool true]) ∧ w = w' := by
  obtain ⟨n, rfl⟩ := Int.eq_ofNat_of_zero_le h0
  have hs : Tab.sqrtS (n : Int) = Tab.roots (n * 10000) 38 0 := rfl
  have hst := Tab.sqInv_start (n * 10000)
  obtain ⟨hi, lo, e0, q0, q1, q2⟩ : ∃ hi lo : Int, ((n * 10000 : Nat) : Int) = hi * 18446744073709551616 + lo ∧ 0 ≤ hi ∧ 0 ≤ lo ∧ lo < 18446744073709551616 :=
    ⟨((n * 10000 / 18446744073709551616 : Nat) : Int), ((n * 10000 % 18446744073709551616 : Nat) : Int), by omega, by omega, by omega, by omega⟩
  have hm := mul_is n 10000 hi lo w (by omega) (by omega) q0 q1 q2 e0
  have HM := Lib.hid hm
  have HE := Lib.hid e0
  have HS := Lib.hid hs
  clear hm e0 hs
  have HT := Lib.hid hst
  clear hst
  generalize hN : n * 10000 = N at *
  generalize Tab.roots N 38 0 = R at *
  have hn1 : (n : Int) ≤ 999999999999999999 := h1
  clear hN
  go_enter Tryz.func55, Tryz.ntmps55
  go_wp2_with (first
    | (go_at_call 122; refine HM.out.mono ?_; rintro e w' ⟨rfl, rfl⟩))
  go_loop [6, 7] (fun r b => ∃ j rn bn : Nat, j ≤ 38 ∧ r = .int .u64 rn ∧ b = .int .u64 bn ∧ Hid (bn = 2 ^ j / 2) ∧ Hid (Tab.SqInv N j rn R)) (fun _ b => (intOf b).toNat)
  case atStart => exact ⟨38, 0, 137438953472, by omega, rfl, rfl, (show 137438953472 = 2 ^ 38 / 2 by decide), HT.out⟩
  case round =>
    obtain ⟨j, rn, bn, hj, rfl, rfl, hb, hinv⟩ := hrel
    rcases j with _ | k
    · have hb0 : ¬ 0 < bn := by have : bn = 0 := hb.out; omega
      have hb1 : decide (0 < bn) = false := decide_eq_false hb0
      have hb2 : decide (0 < (bn : Int)) = false := decide_eq_false (by omega)
      have hr1 : (rn : Int) ≤ 274877906944 := by have := hinv.out.2.1; omega
      clear hb hb0
      go_wp2
      go_ret2
      have := Tab.sqInv_end hinv.out
      refine ⟨ret_ib ?_ rfl, rfl⟩
      rw [HS.out, this]
    · have hk : bn = 2 ^ k := by rw [hb.out, Tab.half_pow]
      have hkb : bn ≤ 137438953472 := by rw [hk]; exact Nat.le_trans (Nat.pow_le_pow_right (by omega) (show k ≤ 37 by omega)) (by decide)
      have hk1 : 1 ≤ bn := by rw [hk]; exact Nat.pow_pos (by omega)
      have hor0 := Tab.sqInv_bit hinv.out
      rw [← hk] at hor0
      have hr0 : rn + bn ≤ 274877906944 := by have := hinv.out.2.1; rw [Nat.pow_succ, ← hk] at this; omega
      have hor : bits .or .u64 (rn : Int) (bn : Int) = ((rn + bn : Nat) : Int) := by rw [bits_or_u64_nat _ _ (by omega) (by omega), hor0]
      obtain ⟨h, l, f0, f1, f2, f3⟩ : ∃ h l : Int, (((rn + bn) * (rn + bn) : Nat) : Int) = h * 18446744073709551616 + l ∧ 0 ≤ h ∧ 0 ≤ l ∧ l < 18446744073709551616 :=
        ⟨(((rn + bn) * (rn + bn) / 18446744073709551616 : Nat) : Int), (((rn + bn) * (rn + bn) % 18446744073709551616 : Nat) : Int), by omega, by omega, by omega, by omega⟩
      have hm2 := mul_is (rn + bn) (rn + bn) h l w (by omega) (by omega) f1 f2 f3 f0
      have hlex : (rn + bn) * (rn + bn) ≤ N ↔ h < hi ∨ h = hi ∧ l ≤ lo := by have := HE.out; omega
      have HM2 := Lib.hid hm2
      have HL := Lib.hid hlex
      have HK := Lib.hid hk
      clear hm2 f0 hor0 hlex hk hb
      have hfin : ∀ (P : Prop), (P → Hid (Tab.SqInv N k (rn + bn) R)) → True := fun _ _ => trivial
      clear hfin
      by_cases hq : (rn + bn) * (rn + bn) ≤ N
      · have hnew : Tab.SqInv N k (rn + bn) R := by have := HK.out; rw [this] at hq ⊢; exact Tab.sqInv_yes hinv.out hq
        have HN := Lib.hid hnew
        rcases HL.out.1 hq with h2 | ⟨rfl, h2⟩
        all_goals
          clear hq hnew
          go_wp2_with (first
            | (go_at_call 122; refine HM2.out.mono ?_; rintro e w' ⟨rfl, rfl⟩))
          go_round
          case rel => exact ⟨k, rn + bn, bn / 2, by omega, by go_num, by go_num, by have := HK.out; rw [this]; rfl, HN.out⟩
          case measure => simp [intOf]; omega
      · have hnew : Tab.SqInv N k rn R := by have := HK.out; rw [this] at hq; exact Tab.sqInv_no hinv.out hq
        have HN := Lib.hid hnew
        have hnl := fun e => hq (HL.out.2 e)
        by_cases he : h = hi
        · subst he
          have h2 : lo < l := Int.not_le.1 fun e => hnl (.inr ⟨rfl, e⟩)
          clear hq hnew hnl
          go_wp2_with (first
            | (go_at_call 122; refine HM2.out.mono ?_; rintro e w' ⟨rfl, rfl⟩))
          go_round
          case rel => exact ⟨k, rn, bn / 2, by omega, by go_num, by go_num, by have := HK.out; rw [this]; rfl, HN.out⟩
          case measure => simp [intOf]; omega
        · have h2 : hi < h := by have h3 := Int.not_lt.1 fun e => hnl (.inl e); omega
          have he' : (h == hi) = false := by simp [he]
          clear hq hnew hnl he
          go_wp2_with (first
            | (go_at_call 122; refine HM2.out.mono ?_; rintro e w' ⟨rfl, rfl⟩))
          go_round
          case rel => exact ⟨k, rn, bn / 2, by omega, by go_num, by go_num, by have := HK.out; rw [this]; rfl, HN.out⟩
          case measure => simp [intOf]; omega
end Go.Proofs.YtkobkeopajohiaaGreatDoor
namespace Go.Proofs.YtkobkeopajohiaaGreatDoor
open Go.RowKit Go.Sort Go.Lib

theorem below_grow (w : World) (k : Nat) (os : Array Obj) : Below w.heap.size w (grow (w.drewN k) os) := by
  refine ⟨rfl, rfl, rfl, by show _ ≤ ((w.drewN k).heap ++ os).size; rw [Array.size_append]; exact Nat.le_add_right _ _, fun i hi => ?_⟩
  show ((w.drewN k).heap ++ os)[i]? = _
  rw [Array.getElem?_append_left (by exact hi)]
  rfl

theorem holds_zero0 (w : World) (T : TypeId) (nd : Nat) (hs : nd ≤ 24) : Holds (fun (b : UInt8) => Value.int .u8 (b.toNat : Int)) (w.alloc (.cells zeros24 T)) w.heap.size 0 (Array.replicate nd (0 : UInt8)) := fun j hj => by
  have hj' : j < nd := by simpa using hj
  refine ⟨?_, World.frozen?_alloc_new _ _ _ _⟩
  rw [World.cell?_alloc_new, zeros24_at _ (by omega), getElem!_pos _ j hj]
  simp
theorem fin_pos0 (w : World) (o : Obj) (dk : Array UInt8) (k : Nat) : ∃ os, (putRow (fun (b : UInt8) => Value.int .u8 (b.toNat : Int)) (w.alloc o) w.heap.size 0 dk).drewN k = grow (w.drewN k) os := by
  rw [alloc_eq_grow]
  obtain ⟨os', _, e⟩ := putRow_grow_new (fun (b : UInt8) => Value.int .u8 (b.toNat : Int)) w #[o] w.heap.size 0 dk (Nat.le_refl _)
  exact ⟨os', by rw [e]; rfl⟩

set_option maxHeartbeats 1600000 in
set_option maxRecDepth 100000 in
theorem formatUint_in (u : Nat) (hu64 : u < 18446744073709551616) (w : World) (hG : GP w) :
    Calls Tryz.prog 161 #[.int .u64 u, .int .i64 10] w fun e w' => e = .returned (.string ⟨(decDigits u).toArray⟩) ∧ Below w.heap.size w w' := by
  by_cases hs : u < 100
  · go_enter Tryz.func161, Tryz.ntmps161
    go_wp2_with (go_at_call 170; refine (Tryz.internal_strconv_small u hs _).mono ?_; rintro e w' ⟨rfl, rfl⟩)
    go_ret
    exact ⟨rfl, Below.refl _ _⟩
  · have hu1 : 1 ≤ u := by omega
    have hs' : ¬ (u : Int) < 100 := by omega
    have hnd20 : nDigits u ≤ 20 := by have := numDigits_eq u hu1 hu64; split at this <;> omega
    have hb3 : nDigits u ≤ 24 := by omega
    have hal : Tryz.prog.arrayLen 196 = 24 := by kernel_rfl
    have hsl1 : ∀ W, (Instr.sliceAt 196 (.pointer (some ⟨w.heap.size, 0, none⟩)) none (some (.int .i64 (nDigits u : Int))) none).run Tryz.prog W = .ok (.slice (some ⟨w.heap.size, 0, none⟩) (nDigits u) 24) W := fun W => by
      rw [run_sliceAt_array_h W 196 ⟨w.heap.size, 0, none⟩ Tryz.underlying196 .i64 (nDigits u : Int) (by omega) (by rw [hal]; omega)]
      rw [hal]
      go_simp
    have hH0 := holds_zero0 w 196 (nDigits u) (by omega)
    have hfmt := Tryz.internal_strconv_formatBase10 w.heap.size 0 24 u (Array.replicate (nDigits u) 0) (w.alloc (.cells zeros24 196)) hH0 (by rw [Array.size_replicate]; exact lt_pow_nDigits u) hu64 (by rw [Array.size_replicate]; omega)
    rw [Array.size_replicate] at hfmt
    have HH0 := Lib.hid hH0
    have htab := Lib.hid (show Lib.TabIs Tryz.prog w "internal/strconv.uint64pow10" .u64 Lib.pow10Tab from hG)
    clear hH0 hal hG
    go_enter Tryz.func161, Tryz.ntmps161
    go_wp2_with (first
      | (go_at_call 171; refine (Tryz.internal_strconv_numDigits u hu1 hu64 _ (Lib.tabIs_alloc htab.out _)).mono ?_; rintro e w' ⟨rfl, rfl⟩))
    go_at_call 172
    refine hfmt.mono ?_
    rintro e w' ⟨rfl, k, v', dk, rfl, hF⟩
    have hcv : (convert 59 9 (.slice (some ⟨w.heap.size, 0, none⟩) (nDigits u) 24)).run Tryz.prog ((putRow (fun (b : UInt8) => Value.int .u8 (b.toNat : Int)) (w.alloc (.cells zeros24 196)) w.heap.size 0 dk).drewN k) = .ok (.string ⟨(decDigits u).toArray⟩) ((putRow (fun (b : UInt8) => Value.int .u8 (b.toNat : Int)) (w.alloc (.cells zeros24 196)) w.heap.size 0 dk).drewN k) := by
      have h := run_convert_bytes_back (P := Tryz.prog) ((putRow (fun (b : UInt8) => Value.int .u8 (b.toNat : Int)) (w.alloc (.cells zeros24 196)) w.heap.size 0 dk).drewN k) 59 9 5 ⟨w.heap.size, 0, none⟩ 24 (decDigits u) Tryz.underlying59 Tryz.underlying5 Tryz.underlying9 (fun j hj => by
        rw [row_is_numeral hF j hj, add_plain, World.cell?_drewN]
        exact cell?_putRow (fun (b : UInt8) => Value.int .u8 (b.toNat : Int)) _ w.heap.size 0 _ dk HH0.out (by rw [hF.size, Array.size_replicate]) j (by rw [hF.size]; rw [decDigits_length] at hj; exact hj))
      rw [decDigits_length] at h
      exact h
    go_wp2
    go_ret
    obtain ⟨os, eo⟩ := fin_pos0 w (.cells zeros24 196) dk k
    refine ⟨rfl, ?_⟩
    rw [eo]
    exact below_grow w k os
theorem formatUint_any (u : Int) (w : World) (hG : GP w) (h0 : 0 ≤ u) (h1 : u < 18446744073709551616) :
    Calls Tryz.prog 146 #[.int .u64 u, .int .i64 10] w fun e w' => e = .returned (.string ⟨(decDigits u.toNat).toArray⟩) ∧ Below w.heap.size w w' := by
  obtain ⟨n, rfl⟩ := Int.eq_ofNat_of_zero_le h0
  have hm := Lib.hid (formatUint_in n (by omega) w hG)
  clear hG
  go_enter Tryz.func146, Tryz.ntmps146
  go_wp2_with (first
    | (go_at_call 161; refine hm.out.mono ?_; rintro e w1 ⟨rfl, hb⟩))
  go_ret
  exact ⟨rfl, hb⟩

theorem formatUint_is (u : Int) (s : ByteArray) (w : World) (hG : GP w) (h0 : 0 ≤ u) (h1 : u < 18446744073709551616) (hs : s.data.toList = decDigits u.toNat) :
    Calls Tryz.prog 146 #[.int .u64 u, .int .i64 10] w fun e w' => e = .returned (.string s) ∧ Below w.heap.size w w' := by
  refine (formatUint_any u w hG h0 h1).mono ?_
  rintro e w1 ⟨rfl, hb⟩
  refine ⟨?_, hb⟩
  rw [← hs]
theorem ret_str {s : ByteArray} {l : List UInt8} (h : s.data.toList = l) : Ending.returned (.string s) = .returned (.string ⟨l.toArray⟩) := by rw [← h]

theorem trimRight_is (s t : ByteArray) (w : World) (hs : s.size ≤ 9223372036854775807) (h : t.data.toList = trimRightB s.data.toList 48) :
    Calls Tryz.prog 147 #[.string s, .string ⟨#[48]⟩] w fun e w' => e = .returned (.string t) ∧ w = w' := by
  refine (Tryz.strings_TrimRight_one s 48 (by decide) w hs).mono ?_
  rintro e w' ⟨rfl, rfl⟩
  refine ⟨?_, rfl⟩
  rw [← h]
theorem dec_size (u : Nat) (h : u < 18446744073709551616) : (decDigits u).length ≤ 20 := by
  rw [decDigits_length]
  by_cases h1 : 1 ≤ u
  · have := numDigits_eq u h1 h; split at this <;> omega
  · rw [nDigits_small (by omega)]; omega

set_option maxHeartbeats 400000 in
theorem text_any (a : Int) (w : World) (hG : GP w) (h : -999999999999999999 ≤ a ∧ a ≤ 999999999999999999) :
    Calls Tryz.prog 102 #[.int .i64 a] w fun e w' => e = .returned (.string ⟨(Tab.text a).toArray⟩) ∧ Below w.heap.size w w' := by
  obtain ⟨h0, h1⟩ := h
  have sz : (a.natAbs : Int) ≤ 999999999999999999 := by omega
  obtain ⟨s1, e1⟩ : ∃ s1 : ByteArray, s1.data.toList = decDigits ((a.natAbs : Int) / 10000).toNat := ⟨⟨(decDigits _).toArray⟩, rfl⟩
  obtain ⟨s2, e2⟩ : ∃ s2 : ByteArray, s2.data.toList = decDigits (10000 + (a.natAbs : Int) % 10000).toNat := ⟨⟨(decDigits _).toArray⟩, rfl⟩
  obtain ⟨s3, e3⟩ : ∃ s3 : ByteArray, s3.data.toList = trimRightB (s2.extract 1 s2.size).data.toList 48 := ⟨⟨(trimRightB _ _).toArray⟩, rfl⟩
  have n1 : s1.size ≤ 20 := by rw [size_eq, e1]; exact dec_size _ (by omega)
  have l2 : s2.size = 5 := by
    rw [size_eq, e2, decDigits_length]
    exact nDigits_unique 4 _ (by omega) (by omega)
  have d3 : (s2.extract 1 s2.size).data.toList = (decDigits (10000 + a.natAbs % 10000)).drop 1 := by
    rw [extract_data, e2, l2, show (10000 + (a.natAbs : Int) % 10000).toNat = 10000 + a.natAbs % 10000 by omega]
    rw [List.take_of_length_le]
    rw [List.length_drop, decDigits_length, nDigits_unique 4 _ (by omega) (by omega)]; omega
  have n3 : s3.size ≤ 5 := by
    rw [size_eq, e3, d3]
    unfold trimRightB
    have h1 := (List.dropWhile_sublist (fun x => x == (48 : UInt8)) (l := ((decDigits (10000 + a.natAbs % 10000)).drop 1).reverse)).length_le
    rw [List.length_reverse, List.length_drop, decDigits_length, nDigits_unique 4 _ (by omega) (by omega)] at h1
    rw [List.length_reverse]; omega
  have l3 : 1 ≤ s2.size := by omega
  have ex : (s2.extract 1 s2.size).size ≤ 9223372036854775807 := by rw [size_eq, d3, List.length_drop, decDigits_length, nDigits_unique 4 _ (by omega) (by omega)]; omega
  have hq : ((a.natAbs : Int) / 10000).toNat = a.natAbs / 10000 := by omega
  rw [hq] at e1
  have E1 := Lib.hid e1
  have E2 := Lib.hid e2
  have E3 := Lib.hid e3
  have D3 := Lib.hid d3
  have EX := Lib.hid ex
  clear l2 e1 e2 e3 d3 ex hq
  by_cases hp : 0 < (a.natAbs : Int) % 10000
  · have hfin : s1.data.toList ++ (46 :: s3.data.toList) = decDigits (a.natAbs / 10000) ++ Tab.frac (a.natAbs % 10000) := by
      rw [E1.out, E3.out, D3.out]
      unfold Tab.frac
      rw [if_neg (by omega)]
    have HF := Lib.hid hfin
    clear hfin
    by_cases hn : a < 0
    all_goals
      go_enter Tryz.func102, Tryz.ntmps102
      go_wp2_with (first
        | (go_at_call 115; refine (size_any a _ (by omega) (by omega)).mono ?_; rintro e w' ⟨rfl, rfl⟩))
      go_at_call 146
      refine (formatUint_is _ s1 _ hG (by omega) (by omega) (by rw [E1.out]; congr 1)).mono ?_
      rintro e w1 ⟨rfl, hb1⟩
      have hG1 := hG.below hb1
      go_wp2_with (first | (go_at_call 146; fail))
      go_at_call 146
      refine (formatUint_is _ s2 _ hG1 (by omega) (by omega) E2.out).mono ?_
      rintro e w2 ⟨rfl, hb2⟩
      go_wp2_with (first | (go_at_call 147; refine (trimRight_is _ s3 _ EX.out E3.out).mono ?_; rintro e w' ⟨rfl, rfl⟩))
      go_ret
      refine ⟨ret_str ?_, hb1.trans (hb2.mono hb1.size)⟩
      simp only [ByteArray.data_append, Array.toList_append]
    · unfold Tab.text
      rw [if_pos hn, ← HF.out]; try rfl
    · unfold Tab.text
      rw [if_neg (by omega), ← HF.out]; try rfl
  · have hfin : s1.data.toList = decDigits (a.natAbs / 10000) ++ Tab.frac (a.natAbs % 10000) := by
      rw [E1.out]
      unfold Tab.frac
      rw [if_pos (by omega), List.append_nil]
    have HF := Lib.hid hfin
    clear hfin
    by_cases hn : a < 0
    all_goals
      go_enter Tryz.func102, Tryz.ntmps102
      go_wp2_with (first
        | (go_at_call 115; refine (size_any a _ (by omega) (by omega)).mono ?_; rintro e w' ⟨rfl, rfl⟩))
      go_at_call 146
      refine (formatUint_is _ s1 _ hG (by omega) (by omega) (by rw [E1.out]; congr 1)).mono ?_
      rintro e w1 ⟨rfl, hb1⟩
      go_wp2
      go_ret
      refine ⟨ret_str ?_, hb1⟩
      try simp only [ByteArray.data_append, Array.toList_append]
    · unfold Tab.text
      rw [if_pos hn, ← HF.out]; try rfl
    · unfold Tab.text
      rw [if_neg (by omega), ← HF.out]; try rfl
end Go.Proofs.YtkobkeopajohiaaGreatDoor
namespace Go.Proofs.YtkobkeopajohiaaGreatDoor
open Go.RowKit Go.Lib

theorem cutPrefix_is (s p b : ByteArray) (m : Bool) (w : World) (hb : b.data.toList = trimPrefix s.data.toList p.data.toList) (hm : m = hasPrefix s.data.toList p.data.toList) :
    Calls Tryz.prog 110 #[.string s, .string p] w fun e w' => e = .returned (.tuple #[.string b, .bool m]) ∧ w = w' := by
  refine (Tryz.strings_CutPrefix s p w).mono ?_
  rintro e w' ⟨rfl, rfl⟩
  refine ⟨?_, rfl⟩
  rw [← hb, ← hm]
theorem cut_is (s p a b : ByteArray) (d : Bool) (w : World) (hG : GM w) (hs : s.size < 4294967281) (ha : a.data.toList = (cut s.data.toList p.data.toList).1) (hb : b.data.toList = (cut s.data.toList p.data.toList).2.1) (hd : d = (cut s.data.toList p.data.toList).2.2) :
    Calls Tryz.prog 144 #[.string s, .string p] w fun e w' => e = .returned (.tuple #[.string a, .string b, .bool d]) ∧ ∃ n, w' = w.drewN n := by
  obtain ⟨m, hm⟩ := hG
  refine (Tryz.strings_Cut s p m w hs hm).mono ?_
  rintro e w' ⟨rfl, h⟩
  refine ⟨?_, h⟩
  rw [← ha, ← hb, ← hd]

theorem conv_bytes (W : World) (s : ByteArray) : (convert 9 59 (.string s)).run Tryz.prog W = .ok (.slice (some ⟨W.heap.size, 0, none⟩) s.size (grownCap W s.size 0 5)) (bytesWorld W 5 s) :=
  Lib.run_convert_string_bytes W 9 59 5 s Tryz.underlying9 Tryz.underlying59 Tryz.underlying5

theorem empty_iff (s : ByteArray) : s.toList.isEmpty = true ↔ s.data.toList = [] := by
  rw [toList_data]; exact List.isEmpty_iff

set_option maxHeartbeats 400000 in
set_option maxRecDepth 100000 in
theorem parse_any (s : ByteArray) (w : World) (hG : GM w) (hs : s.size < 4294967281) :
    Calls Tryz.prog 100 #[.string s] w fun e w' => e = .returned (.tuple #[.int .i64 (Tab.parse s.data.toList).1, .bool (Tab.parse s.data.toList).2]) ∧ Below w.heap.size w w' := by
  obtain ⟨b, eb⟩ : ∃ b : ByteArray, b.data.toList = trimPrefix s.data.toList [45] := ⟨⟨(trimPrefix _ _).toArray⟩, rfl⟩
  obtain ⟨m, em⟩ : ∃ m, m = hasPrefix s.data.toList [45] := ⟨_, rfl⟩
  obtain ⟨wh, ewh⟩ : ∃ x : ByteArray, x.data.toList = (cut b.data.toList [46]).1 := ⟨⟨((cut b.data.toList [46]).1).toArray⟩, rfl⟩
  obtain ⟨pt, ept⟩ : ∃ x : ByteArray, x.data.toList = (cut b.data.toList [46]).2.1 := ⟨⟨((cut b.data.toList [46]).2.1).toArray⟩, rfl⟩
  obtain ⟨d, ed⟩ : ∃ d, d = (cut b.data.toList [46]).2.2 := ⟨_, rfl⟩
  have hP : Tab.parse s.data.toList = Tab.parseBody m b.data.toList := by unfold Tab.parse; rw [em, eb]
  rw [hP]
  have bs : b.size ≤ 4294967280 := by
    have := size_eq s
    rw [size_eq, eb]; unfold trimPrefix; split
    · rw [List.length_drop]; omega
    · omega
  have hcl : (cut b.data.toList [46]).1.length + (cut b.data.toList [46]).2.1.length ≤ b.data.toList.length := by
    unfold cut
    split
    · simp only [List.length_take, List.length_drop, List.length_singleton]; omega
    · simp
  rw [← ewh, ← ept, ← size_eq, ← size_eq, ← size_eq] at hcl
  have HP := Lib.hid (cutPrefix_is s ⟨#[45]⟩ b m w eb em)
  have HC := Lib.hid (cut_is b ⟨#[46]⟩ wh pt d w hG (by omega) ewh ept ed)
  have hd2 : d = false → pt.size = 0 := by
    intro h
    rw [h] at ed
    rw [size_eq, ept]
    unfold cut at ed ⊢
    split at ed
    · cases ed
    · rename_i h; rw [if_neg h]; rfl
  clear eb em hP
  by_cases hbad : wh.data.toList = [] ∨ d = true ∧ (pt.data.toList = [] ∨ 4 < pt.size)
  · have hfin : Tab.parseBody m b.data.toList = (0, false) := by
      unfold Tab.parseBody
      rw [← ewh, ← ept, ← ed, ← size_eq, if_pos hbad]
    rw [hfin]
    clear hfin ewh ept ed hd2
    by_cases hw0 : wh.toList.isEmpty = true
    · clear hbad hG
      go_enter Tryz.func100, Tryz.ntmps100
      go_wp2_with (first
        | (go_at_call 110; refine HP.out.mono ?_; rintro e w' ⟨rfl, rfl⟩)
        | (go_at_call 144; refine HC.out.mono ?_; rintro e w' ⟨rfl, n, rfl⟩))
      go_ret2
      exact ⟨rfl, below_drewN (Below.refl _ _) _⟩
    · have hw1 : wh.toList.isEmpty = false := by simpa using hw0
      have hb2 : d = true ∧ (pt.data.toList = [] ∨ 4 < pt.size) := by
        rcases hbad with h | h
        · exact absurd ((empty_iff wh).2 h) hw0
        · exact h
      obtain ⟨rfl, hb3⟩ := hb2
      clear hbad hG hw0
      by_cases hp0 : pt.toList.isEmpty = true
      · clear hb3
        go_enter Tryz.func100, Tryz.ntmps100
        go_wp2_with (first
          | (go_at_call 110; refine HP.out.mono ?_; rintro e w' ⟨rfl, rfl⟩)
          | (go_at_call 144; refine HC.out.mono ?_; rintro e w' ⟨rfl, n, rfl⟩))
        go_ret2
        exact ⟨rfl, below_drewN (Below.refl _ _) _⟩
      · have hp1 : pt.toList.isEmpty = false := by simpa using hp0
        have hp2 : 4 < pt.size := by
          rcases hb3 with h | h
          · exact absurd ((empty_iff pt).2 h) hp0
          · exact h
        clear hb3 hp0
        go_enter Tryz.func100, Tryz.ntmps100
        go_wp2_with (first
          | (go_at_call 110; refine HP.out.mono ?_; rintro e w' ⟨rfl, rfl⟩)
          | (go_at_call 144; refine HC.out.mono ?_; rintro e w' ⟨rfl, n, rfl⟩))
        go_ret2
        exact ⟨rfl, below_drewN (Below.refl _ _) _⟩
  · have hfin : Tab.parseBody m b.data.toList = Tab.valOf m (Tab.digs 0 (wh.data.toList ++ (pt.data.toList ++ [48, 48, 48, 48].drop pt.data.toList.length))) := by
      unfold Tab.parseBody
      rw [← ewh, ← ept, ← ed]
      rw [size_eq] at hbad
      rw [if_neg hbad]
    rw [hfin]
    generalize hR : Tab.valOf m (Tab.digs 0 (wh.data.toList ++ (pt.data.toList ++ [48, 48, 48, 48].drop pt.data.toList.length))) = R
    have HR := Lib.hid hR
    clear hR
    have hw0 : wh.toList.isEmpty = false := by
      have := mt (empty_iff wh).1 (fun h => hbad (.inl h))
      simpa using this
    have hpt4 : pt.size ≤ 4 := by
      cases hdd : d with
      | false => have := hd2 hdd; omega
      | true => have := Nat.not_lt.1 fun h => hbad (.inr ⟨hdd, .inr h⟩); omega
    have hgd : d = false ∨ d = true ∧ pt.toList.isEmpty = false := by
      cases hdd : d with
      | false => exact .inl rfl
      | true =>
        refine .inr ⟨rfl, ?_⟩
        have := mt (empty_iff pt).1 (fun h => hbad (.inr ⟨hdd, .inl h⟩))
        simpa using this
    have HB := Lib.hid hbad
    have hG1 : ∀ n, GM (w.drewN n) := fun n => hG.below (below_drewN (Below.refl _ _) n)
    clear hbad ewh ept ed hd2 hfin hG
    have hcv := conv_bytes
    have hlast : ∀ (W W1 : World) (S : ByteArray), W.heap.size = w.heap.size → bytesWorld W 5 S = W1 → ∀ k, k < S.size → W1.cell? ⟨w.heap.size, k, none⟩ = some (.int .u8 (S.data.toList.getD k 0).toNat) := by
      rintro W _ S hh rfl k hk
      rw [← hh]
      exact bytesWorld_cell W 5 S k hk
    have hsz : ∀ S : ByteArray, wh ++ pt ++ (ByteArray.mk #[48, 48, 48, 48]).extract pt.size 4 = S → S.size = wh.size + pt.size + (4 - pt.size) ∧ S.data.toList = wh.data.toList ++ (pt.data.toList ++ [48, 48, 48, 48].drop pt.data.toList.length) := by
      rintro _ rfl
      have e4 : ((ByteArray.mk #[48, 48, 48, 48]).extract pt.size 4).data.toList = [48, 48, 48, 48].drop pt.data.toList.length := by
        rw [extract_data, ← size_eq]
        exact List.take_of_length_le (by simp)
      refine ⟨?_, ?_⟩
      · rw [ByteArray.size_append, ByteArray.size_append, size_eq (ByteArray.extract _ _ _), e4, List.length_drop, ← size_eq]; rfl
      · rw [ByteArray.data_append, ByteArray.data_append, Array.toList_append, Array.toList_append, e4, List.append_assoc]
    have HL := Lib.hid hlast
    have HZ := Lib.hid hsz
    clear hlast hsz
    rcases hgd with rfl | ⟨rfl, hp1⟩
    all_goals
      go_enter Tryz.func100, Tryz.ntmps100
      go_wp2_with (first
        | (go_at_call 110; refine HP.out.mono ?_; rintro e w' ⟨rfl, rfl⟩)
        | (go_at_call 144; refine HC.out.mono ?_; rintro e w' ⟨rfl, n, rfl⟩))
      clear hcv
      have hbel : ∀ S, Below w.heap.size w (bytesWorld (w.drewN n) 5 S) := fun S => (below_drewN (Below.refl _ _) n).trans ⟨rfl, rfl, rfl, by rw [bytesWorld_size]; exact Nat.le_succ _, fun i hi => bytesWorld_at_old _ _ _ i hi⟩
      generalize hS : wh ++ pt ++ (ByteArray.mk #[48, 48, 48, 48]).extract pt.size 4 = S
      obtain ⟨z1, z2⟩ := HZ.out S hS
      have hB := hbel S
      generalize hW : bytesWorld (w.drewN n) 5 S = W1 at hB ⊢
      have hc := HL.out (w.drewN n) W1 S rfl hW
      rw [z1] at hc
      have Z2 := Lib.hid z2
      have HCE := Lib.hid hc
      have Hlen : Hid (S.data.toList.length = wh.size + pt.size + (4 - pt.size)) := by rw [← size_eq]; exact z1
      clear hS hW hbel z1 z2 hc HL HZ
      go_loop [9, 46] (fun v i => ∃ k x : Nat, v = .int .u64 x ∧ i = .int .i64 k ∧ k ≤ wh.size + pt.size + (4 - pt.size) ∧ x ≤ 999999999999999999 ∧ Hid (Tab.digs x (S.data.toList.drop k) = Tab.digs 0 S.data.toList)) (fun _ i => wh.size + pt.size + (4 - pt.size) - (RowKit.intOf i).toNat)
      case atStart => exact ⟨0, 0, rfl, rfl, by omega, by omega, rfl⟩
      case round =>
        obtain ⟨k, x, rfl, rfl, hk, hx, hd⟩ := hrel
        by_cases hlt : k < wh.size + pt.size + (4 - pt.size)
        · have hcell := HCE.out k hlt
          have hcons : S.data.toList.drop k = S.data.toList.getD k 0 :: S.data.toList.drop (k + 1) := by
            rw [List.drop_eq_getElem_cons (by rw [Hlen.out]; exact hlt), List.getD_eq_getElem?_getD, List.getElem?_eq_getElem (by rw [Hlen.out]; exact hlt)]
            rfl
          have hd2 := hd.out
          rw [hcons] at hd2
          simp only [Tab.digs] at hd2
          generalize S.data.toList.getD k 0 = c at *
          have hc8 := c.toNat_lt
          have hc9 : (c.toNat : Int) < 256 := by omega
          have hc0 : c < 48 ↔ (c.toNat : Int) < 48 := by rw [UInt8.lt_iff_toNat_lt]; show c.toNat < 48 ↔ _; omega
          have hc1 : 57 < c ↔ 57 < (c.toNat : Int) := by rw [UInt8.lt_iff_toNat_lt]; show 57 < c.toNat ↔ _; omega
          have hbad : ((c.toNat : Int) < 48 ∨ 57 < (c.toNat : Int) ∨ 99999999999999999 < x) → none = Tab.digs 0 S.data.toList := fun h => by
            rw [if_pos (by rw [hc0, hc1]; exact h)] at hd2; exact hd2
          have hgood : ¬ ((c.toNat : Int) < 48 ∨ 57 < (c.toNat : Int) ∨ 99999999999999999 < x) → Tab.digs (10 * x + (c.toNat - 48)) (List.drop (k + 1) S.data.toList) = Tab.digs 0 S.data.toList := fun h => by
            rw [if_neg (by rw [hc0, hc1]; exact h)] at hd2; exact hd2
          have HD := Lib.hid hbad
          have HD3 := Lib.hid hgood
          clear hd2 hcons hc0 hc1 hd hc8 hbad hgood
          by_cases b1 : (c.toNat : Int) < 48
          · go_wp2
            go_ret2
            refine ⟨?_, hB⟩
            have := HD.out (.inl b1)
            rw [Z2.out] at this
            have hr : R = (0, false) := by rw [← HR.out, ← this]; rfl
            rw [hr]; rfl
          · by_cases b2 : 57 < (c.toNat : Int)
            · go_wp2
              go_ret2
              refine ⟨?_, hB⟩
              have := HD.out (.inr (.inl b2))
              rw [Z2.out] at this
              have hr : R = (0, false) := by rw [← HR.out, ← this]; rfl
              rw [hr]; rfl
            · by_cases b3 : 99999999999999999 < (x : Int)
              · go_wp2
                go_ret2
                refine ⟨?_, hB⟩
                have := HD.out (.inr (.inr (by omega)))
                rw [Z2.out] at this
                have hr : R = (0, false) := by rw [← HR.out, ← this]; rfl
                rw [hr]; rfl
              · have hd3 := Lib.hid (HD3.out (by omega))
                clear HD3 HD
                go_wp2
                go_round
                case rel => exact ⟨k + 1, 10 * x + (c.toNat - 48), by go_num, by go_num, by omega, by omega, hd3.out⟩
                case measure => simp [RowKit.intOf]; omega
        · have hke : k = S.data.toList.length := by rw [Hlen.out]; omega
          have hend := hd.out
          rw [hke, List.drop_length] at hend
          simp only [Tab.digs] at hend
          rw [Z2.out] at hend
          have HE := Lib.hid hend
          clear hend hd hke
          go_wp2_with (first
            | (go_at_call 116; refine (made_any m x _ (by omega)).mono ?_; rintro e w' ⟨rfl, rfl⟩))
          go_ret2
          refine ⟨?_, hB⟩
          have hr : R = Tab.made m x := by rw [← HR.out, ← HE.out]; rfl
          rw [hr]; rfl
end Go.Proofs.YtkobkeopajohiaaGreatDoor
namespace Go.Proofs.YtkobkeopajohiaaGreatDoor
open Go.RowKit Go.Lib

theorem div64_zero (lo y : Int) (w : World) (h0 : 0 ≤ lo) (h1 : lo < 18446744073709551616) (hy : 1 ≤ y) (hy1 : y < 18446744073709551616) :
    Calls Tryz.prog 152 #[.int .u64 0, .int .u64 lo, .int .u64 y] w fun e w' => e = .returned (.tuple #[.int .u64 (lo / y), .int .u64 (lo % y)]) ∧ ∃ n, w' = w.drewN n := by
  have hy0 : (y == 0) = false := by rw [beq_eq_false_iff_ne]; omega
  have hq0 := Int.ediv_nonneg h0 (show 0 ≤ y by omega)
  have hq1 := Int.ediv_le_self y h0
  have hr0 := Int.emod_nonneg lo (show y ≠ 0 by omega)
  have hr1 := Int.emod_lt_of_pos lo (show 0 < y by omega)
  go_enter Tryz.func152, Tryz.ntmps152
  go_wp2
  go_quiet (fail)
  go_wp2
  go_ret2
  exact ⟨rfl, _, rfl⟩

set_option maxRecDepth 100000 in
theorem quot_up (lo y : Int) (w : World) (h0 : 0 ≤ lo) (h1 : lo < 18446744073709551616) (hy : 1 ≤ y) (hy1 : y < 18446744073709551616) (hq : lo / y ≤ 999999999999999998) (hr : y - lo % y ≤ lo % y) :
    Calls Tryz.prog 142 #[.int .u64 0, .int .u64 lo, .int .u64 y] w fun e w' => e = .returned (.tuple #[.int .u64 (lo / y + 1), .bool true]) ∧ ∃ n, w' = w.drewN n := by
  have b0 := Int.ediv_nonneg h0 (show 0 ≤ y by omega)
  have hr0 := Int.emod_nonneg lo (show y ≠ 0 by omega)
  have hr1 := Int.emod_lt_of_pos lo (show 0 < y by omega)
  have HD := Lib.hid fun w => div64_zero lo y w h0 h1 hy hy1
  clear h0 h1
  generalize lo / y = q at *
  generalize lo % y = r at *
  go_enter Tryz.func142, Tryz.ntmps142
  go_wp2_with (first
    | (go_at_call 152; refine (HD.out _).mono ?_; rintro e w' ⟨rfl, n, rfl⟩))
  go_ret2
  exact ⟨ret_ib rfl (decide_eq_true (by omega)), _, rfl⟩

set_option maxRecDepth 100000 in
theorem div_two_three (w : World) :
    Calls Tryz.prog 96 #[.int .i64 20000, .int .i64 30000] w fun e w' => e = .returned (.tuple #[.int .i64 6667, .bool true]) ∧ ∃ n, w' = w.drewN n := by
  have hq := fun w => quot_up 200000000 30000 w (by decide) (by decide) (by decide) (by decide) (by decide) (by decide)
  go_enter Tryz.func96, Tryz.ntmps96
  go_wp2_with (first
    | (go_at_call 115; refine (size_any _ _ (by omega) (by omega)).mono ?_; rintro e w' ⟨rfl, rfl⟩)
    | (go_at_call 122; refine (mul_is 20000 10000 0 200000000 _ (by omega) (by omega) (by omega) (by omega) (by omega) (by decide)).mono ?_; rintro e w' ⟨rfl, rfl⟩)
    | (go_at_call 142; refine (hq _).mono ?_; rintro e w' ⟨rfl, n, rfl⟩)
    | (go_at_call 116; refine (made_int _ _ _ (by omega) (by omega)).mono ?_; rintro e w' ⟨rfl, rfl⟩))
  go_ret2
  exact ⟨ret_ib (by decide) (by decide), _, rfl⟩

theorem parse_is (s : ByteArray) (n : Int) (ok : Bool) (w : World) (hG : GM w) (hs : s.size < 4294967281) (h : Tab.parse s.data.toList = (n, ok)) :
    Calls Tryz.prog 100 #[.string s] w fun e w' => e = .returned (.tuple #[.int .i64 n, .bool ok]) ∧ Below w.heap.size w w' := by
  have := parse_any s w hG hs
  rw [h] at this
  exact this
theorem round_is (a p n : Int) (ok : Bool) (w : World) (hG : GT w) (ha : -999999999999999999 ≤ a ∧ a ≤ 999999999999999999) (h : Tab.roundS a p = (n, ok)) :
    Calls Tryz.prog 47 #[.int .i64 a, .int .i64 p] w fun e w' => e = .returned (.tuple #[.int .i64 n, .bool ok]) ∧ w = w' := by
  have := round_any a p w hG ha
  rw [h] at this
  exact this
theorem text_is (a : Int) (t : ByteArray) (w : World) (hG : GP w) (ha : -999999999999999999 ≤ a ∧ a ≤ 999999999999999999) (h : t.data.toList = Tab.text a) :
    Calls Tryz.prog 102 #[.int .i64 a] w fun e w' => e = .returned (.string t) ∧ Below w.heap.size w w' := by
  have := text_any a w hG ha
  rw [← h] at this
  exact this
theorem good_yes (a : Int) (w : World) (h : -999999999999999999 ≤ a ∧ a ≤ 999999999999999999) : Calls Tryz.prog 124 #[.int .i64 a] w fun e w' => e = .returned (.bool true) ∧ w = w' := by
  have := good_any a w
  rw [decide_eq_true h] at this
  exact this
theorem good_no (a : Int) (w : World) (h : ¬ (-999999999999999999 ≤ a ∧ a ≤ 999999999999999999)) : Calls Tryz.prog 124 #[.int .i64 a] w fun e w' => e = .returned (.bool false) ∧ w = w' := by
  have := good_any a w
  rw [decide_eq_false h] at this
  exact this
end Go.Proofs.YtkobkeopajohiaaGreatDoor
