/-
  CONTRACTS of the reference's fit, Mod, Floor, Ceil, and of the law's same.
-/
import Derived.Test.YtkobkeopajohiaaGreatDoorR3
import Derived.Test.YtkobkeopajohiaaGreatDoorPl4
import Derived.LoopTactic
import Derived.Deep.QuietTactic
import Derived.BigQuiet

namespace Go.Proofs.YtkobkeopajohiaaGreatDoor
open Go.RowKit Go.Lib

theorem fit_any (c : Int) (w : World) : Calls Tryz.prog 128 #[.int .i64 c] w fun e w' => e = .returned (.tuple #[.int .i64 (Tab.fit c).1, .bool (Tab.fit c).2]) ∧ w = w' := by
  by_cases h1 : 999999999999999999 < c
  · have e : Tab.fit c = (0, false) := by unfold Tab.fit; rw [if_neg (by omega)]
    rw [e]
    go_enter Tryz.func128, Tryz.ntmps128
    go_wp2
    go_ret2
    exact ⟨rfl, rfl⟩
  · by_cases h2 : c < -999999999999999999
    · have e : Tab.fit c = (0, false) := by unfold Tab.fit; rw [if_neg (by omega)]
      rw [e]
      go_enter Tryz.func128, Tryz.ntmps128
      go_wp2
      go_ret2
      exact ⟨rfl, rfl⟩
    · have e : Tab.fit c = (c, true) := by unfold Tab.fit; rw [if_pos (by omega)]
      rw [e]
      clear e
      go_enter Tryz.func128, Tryz.ntmps128
      go_wp2
      go_ret2
      exact ⟨rfl, rfl⟩

theorem refMod_any (a b : Int) (w : World) (ha : -999999999999999999 ≤ a ∧ a ≤ 999999999999999999) (hb : -999999999999999999 ≤ b ∧ b ≤ 999999999999999999) (h0 : b ≠ 0) :
    Calls Tryz.prog 72 #[.int .i64 a, .int .i64 b] w fun e w' => e = .returned (.int .i64 (Int.fmod a b)) ∧ w = w' := by
  have hb0 : (b == 0) = false := by simp [h0]
  have hr := Tab.rest_eq a b
  obtain ⟨t1, t2⟩ := Tab.tmod_bd a b h0 hb
  obtain ⟨f1, f2, f3⟩ := Tab.fmod_of a b h0
  obtain ⟨a0, a1⟩ := ha
  obtain ⟨b1, b2⟩ := hb
  have q0 : -2000000000000000000 ≤ a.tdiv b * b := by omega
  have q1 : a.tdiv b * b ≤ 2000000000000000000 := by omega
  have d1 : (a.tdiv b).natAbs ≤ a.natAbs := by rw [Int.natAbs_tdiv]; exact Nat.div_le_self _ _
  have d2 : -999999999999999999 ≤ a.tdiv b := by omega
  have d3 : a.tdiv b ≤ 999999999999999999 := by omega
  have HR := Lib.hid hr
  have F1 := Lib.hid f1
  have F2 := Lib.hid f2
  have F3 := Lib.hid f3
  clear f1 f2 f3
  by_cases hz : a.tmod b = 0
  · have r1 : a - a.tdiv b * b ≤ 0 := by omega
    have r2 : 0 ≤ a - a.tdiv b * b := by omega
    clear hr
    go_enter Tryz.func72, Tryz.ntmps72
    go_wp2
    go_ret
    exact ⟨ret_int (by rw [F1.out hz, HR.out, hz]), rfl⟩
  · by_cases hs : (a.tmod b < 0) ↔ (b < 0)
    · by_cases hn : a.tmod b < 0
      · have r1 : a - a.tdiv b * b < 0 := by omega
        have r2 : b < 0 := hs.1 hn
        have HZ := Lib.hid hz
        have HS := Lib.hid hs
        clear hr hz hs hn
        go_enter Tryz.func72, Tryz.ntmps72
        go_wp2
        go_ret
        exact ⟨ret_int (by rw [F2.out HZ.out HS.out, HR.out]), rfl⟩
      · have r1 : 0 < a - a.tdiv b * b := by omega
        have r2 : 0 < b := by omega
        have HZ := Lib.hid hz
        have HS := Lib.hid hs
        clear hr hz hs hn
        go_enter Tryz.func72, Tryz.ntmps72
        go_wp2
        go_ret
        exact ⟨ret_int (by rw [F2.out HZ.out HS.out, HR.out]), rfl⟩
    · by_cases hn : a.tmod b < 0
      · have r1 : a - a.tdiv b * b < 0 := by omega
        have r2 : 0 < b := by omega
        have HZ := Lib.hid hz
        have HS := Lib.hid hs
        clear hr hz hs hn
        go_enter Tryz.func72, Tryz.ntmps72
        go_wp2
        go_ret
        exact ⟨ret_int (by rw [F3.out HZ.out HS.out, HR.out]), rfl⟩
      · have r1 : 0 < a - a.tdiv b * b := by omega
        have r2 : b < 0 := by omega
        have HZ := Lib.hid hz
        have HS := Lib.hid hs
        clear hr hz hs hn
        go_enter Tryz.func72, Tryz.ntmps72
        go_wp2
        go_ret
        exact ⟨ret_int (by rw [F3.out HZ.out HS.out, HR.out]), rfl⟩

theorem refMod_pos (a s : Int) (w : World) (ha : -999999999999999999 ≤ a ∧ a ≤ 999999999999999999) (hs : 0 < s ∧ s ≤ 999999999999999999) :
    Calls Tryz.prog 72 #[.int .i64 a, .int .i64 s] w fun e w' => e = .returned (.int .i64 (a % s)) ∧ w = w' := by
  have := refMod_any a s w ha ⟨by omega, hs.2⟩ (by omega)
  rw [Int.fmod_eq_emod_of_nonneg a (by omega)] at this
  exact this

theorem refFloor_any (a s : Int) (w : World) (ha : -999999999999999999 ≤ a ∧ a ≤ 999999999999999999) (hs : 0 < s ∧ s ≤ 999999999999999999) :
    Calls Tryz.prog 66 #[.int .i64 a, .int .i64 s] w fun e w' => e = .returned (.tuple #[.int .i64 (Tab.fit (a - a % s)).1, .bool (Tab.fit (a - a % s)).2]) ∧ w = w' := by
  have m0 := Int.emod_nonneg a (show s ≠ 0 by omega)
  have m1 := Int.emod_lt_of_pos a hs.1
  have HM := Lib.hid (refMod_pos a s w ha hs)
  obtain ⟨a0, a1⟩ := ha
  obtain ⟨s0, s1⟩ := hs
  generalize a % s = m at *
  go_enter Tryz.func66, Tryz.ntmps66
  go_wp2_with (first
    | (go_at_call 72; refine HM.out.mono ?_; rintro e w' ⟨rfl, rfl⟩)
    | (go_at_call 128; refine (fit_any _ _).mono ?_; rintro e w' ⟨rfl, rfl⟩))
  go_ret2
  exact ⟨rfl, rfl⟩

theorem refCeil_any (a s : Int) (w : World) (ha : -999999999999999999 ≤ a ∧ a ≤ 999999999999999999) (hs : 0 < s ∧ s ≤ 999999999999999999) :
    Calls Tryz.prog 70 #[.int .i64 a, .int .i64 s] w fun e w' => e = .returned (.tuple #[.int .i64 (-(Tab.fit (-a - (-a) % s)).1), .bool (Tab.fit (-a - (-a) % s)).2]) ∧ w = w' := by
  have m0 := Int.emod_nonneg a (show s ≠ 0 by omega)
  have m1 := Int.emod_lt_of_pos a hs.1
  have HM := Lib.hid (refMod_pos a s w ha hs)
  obtain ⟨C1, C2⟩ := Tab.ceilR a s ha hs
  obtain ⟨a0, a1⟩ := ha
  obtain ⟨s0, s1⟩ := hs
  generalize a % s = m at *
  by_cases hz : m = 0
  · obtain ⟨e1, e2⟩ := C1 hz
    rw [e1, e2]
    subst hz
    clear C1 C2 e1 e2
    go_enter Tryz.func70, Tryz.ntmps70
    go_wp2_with (first
      | (go_at_call 72; refine HM.out.mono ?_; rintro e w' ⟨rfl, rfl⟩))
    go_ret2
    exact ⟨rfl, rfl⟩
  · obtain ⟨e1, e2⟩ := C2 hz
    rw [e1, e2]
    have hz' : (m == 0) = false := by simp [hz]
    clear C1 C2 e1 e2 hz
    go_enter Tryz.func70, Tryz.ntmps70
    go_wp2_with (first
      | (go_at_call 72; refine HM.out.mono ?_; rintro e w' ⟨rfl, rfl⟩)
      | (go_at_call 128; refine (fit_any _ _).mono ?_; rintro e w' ⟨rfl, rfl⟩))
    go_ret2
    exact ⟨rfl, rfl⟩

end Go.Proofs.YtkobkeopajohiaaGreatDoor
