/-
  FUNCTIONS OF NUMBERS, called at two numbers: rounded, quotients, what is left.
-/
import Derived.Test.YtkobkeopajohiaaGreatDoorV6
namespace Go.Proofs.YtkobkeopajohiaaGreatDoor
open Go.RowKit Go.Lib
set_option maxRecDepth 100000 in
theorem limits_ROUNDUP (w : World) : Calls Tryz.prog 38 #[.string ⟨#[82, 79, 85, 78, 68, 85, 80]⟩] w fun e w' => e = .returned (.tuple #[.int .i64 1, .int .i64 2]) ∧ w = w' := by
  go_enter Tryz.func38, Tryz.ntmps38
  go_wp2
  go_ret2
  exact ⟨rfl, rfl⟩
set_option maxRecDepth 100000 in
theorem limits_ROUNDDOWN (w : World) : Calls Tryz.prog 38 #[.string ⟨#[82, 79, 85, 78, 68, 68, 79, 87, 78]⟩] w fun e w' => e = .returned (.tuple #[.int .i64 1, .int .i64 2]) ∧ w = w' := by
  go_enter Tryz.func38, Tryz.ntmps38
  go_wp2
  go_ret2
  exact ⟨rfl, rfl⟩
set_option maxRecDepth 100000 in
theorem limits_ROUND (w : World) : Calls Tryz.prog 38 #[.string ⟨#[82, 79, 85, 78, 68]⟩] w fun e w' => e = .returned (.tuple #[.int .i64 1, .int .i64 2]) ∧ w = w' := by
  go_enter Tryz.func38, Tryz.ntmps38
  go_wp2
  go_ret2
  exact ⟨rfl, rfl⟩
set_option maxRecDepth 100000 in
theorem limits_QUOTIENT (w : World) : Calls Tryz.prog 38 #[.string ⟨#[81, 85, 79, 84, 73, 69, 78, 84]⟩] w fun e w' => e = .returned (.tuple #[.int .i64 2, .int .i64 2]) ∧ w = w' := by
  go_enter Tryz.func38, Tryz.ntmps38
  go_wp2
  go_ret2
  exact ⟨rfl, rfl⟩
set_option maxRecDepth 100000 in
theorem limits_MOD (w : World) : Calls Tryz.prog 38 #[.string ⟨#[77, 79, 68]⟩] w fun e w' => e = .returned (.tuple #[.int .i64 2, .int .i64 2]) ∧ w = w' := by
  go_enter Tryz.func38, Tryz.ntmps38
  go_wp2
  go_ret2
  exact ⟨rfl, rfl⟩
set_option maxRecDepth 100000 in
theorem limits_GCD (w : World) : Calls Tryz.prog 38 #[.string ⟨#[71, 67, 68]⟩] w fun e w' => e = .returned (.tuple #[.int .i64 1, .int .i64 30]) ∧ w = w' := by
  go_enter Tryz.func38, Tryz.ntmps38
  go_wp2
  go_ret2
  exact ⟨rfl, rfl⟩
set_option maxRecDepth 100000 in
theorem limits_LCM (w : World) : Calls Tryz.prog 38 #[.string ⟨#[76, 67, 77]⟩] w fun e w' => e = .returned (.tuple #[.int .i64 1, .int .i64 30]) ∧ w = w' := by
  go_enter Tryz.func38, Tryz.ntmps38
  go_wp2
  go_ret2
  exact ⟨rfl, rfl⟩
theorem below_drewN {B : Nat} {a w : World} (h : Below B a w) (k : Nat) : Below B a (w.drewN k) := ⟨h.os, h.tape, h.output, h.size, h.block⟩
theorem round_gt (a p n : Int) (ok : Bool) (ha : -999999999999999999 ≤ a ∧ a ≤ 999999999999999999) (h : Tab.roundS a p = (n, ok)) (w : World) (hG : GT w) :
    Calls Tryz.prog 47 #[.int .i64 a, .int .i64 p] w fun e w' => e = .returned (.tuple #[.int .i64 n, .bool ok]) ∧ w = w' := by
  have := round_any a p w hG ha
  rw [h] at this
  exact this
set_option maxRecDepth 100000 in
theorem quotient_is (a b : Int) (v : V) (w : World) (ha : 0 ≤ a ∧ a ≤ 999999999999999999) (hb : 1 ≤ b ∧ b ≤ 999999999999999999) (hv : (if a / b ≤ 99999999999999 then V.num (a / b * 10000) else V.fail 2) = v) :
    Calls Tryz.prog 53 #[.int .i64 a, .int .i64 b] w fun e w' => e = .returned v.val ∧ ∃ n, w' = w.drewN n := by
  obtain ⟨a0, a1⟩ := ha
  obtain ⟨b0, b1⟩ := hb
  have hb0 : (b == 0) = false := by rw [beq_eq_false_iff_ne]; omega
  have q0 := Int.ediv_nonneg a0 (show 0 ≤ b by omega)
  have q1 := Int.ediv_le_self b a0
  obtain ⟨m, ok, HI, hv'⟩ : ∃ m ok, Hid (∀ w, Calls Tryz.prog 120 #[.int .i64 (a / b)] w fun e w' => e = .returned (.tuple #[.int .i64 m, .bool ok]) ∧ w = w') ∧ (if ok then V.num m else V.fail 2) = v := by
    by_cases h : a / b ≤ 99999999999999
    · rw [if_pos h] at hv
      exact ⟨_, _, Lib.hid fun w => int_yes (a / b) w (by omega), hv⟩
    · rw [if_neg h] at hv
      exact ⟨_, _, Lib.hid fun w => int_no (a / b) w (by omega) (by omega), hv⟩
  have HC := Lib.hid fun w => counted_v m ok v w hv'
  clear hv hv'
  go_enter Tryz.func53, Tryz.ntmps53
  go_wp2_with (first
    | (go_at_call 120; refine (HI.out _).mono ?_; rintro e w' ⟨rfl, rfl⟩)
    | (go_at_call 43; refine (HC.out _).mono ?_; rintro e w' ⟨rfl, rfl⟩))
  go_ret
  exact ⟨rfl, 0, rfl⟩
set_option maxHeartbeats 1600000 in
set_option maxRecDepth 100000 in
theorem call_ROUNDUP (vs : List V) (g cap : Nat) (a p : Int) (v : V) (w : World) (hG : GM w) (hT : GT w) (hA : ArgsAt w g vs) (hs : ∀ v ∈ vs, v.short 4294967) (hlen : vs.length = 2) (hnum : nums vs [] = ([a, (p * 10000)], 0))
    (ha : -999999999999999999 ≤ a ∧ a ≤ 999999999999999999) (hp : p = 0 ∨ p = 1 ∨ p = 2 ∨ p = 3 ∨ p = 4) (hv : awayV a p = v) :
    Calls Tryz.prog 13 #[.string ⟨#[82, 79, 85, 78, 68, 85, 80]⟩, .slice (some ⟨g, 0, none⟩) 2 cap] w fun e w' => e = .returned v.val ∧ Below w.heap.size w w' := by
  have HN := Lib.hid (hlen ▸ numbers_any vs g cap w hG hA hs (by omega) _ hnum)
  have hk : 0 ≤ p ∧ p ≤ 20 := by omega
  have HA := Lib.hid fun w hT => away_is a p v w hT ha hp hv
  clear hv hp ha
  clear hA hs hnum hlen hG
  go_enter Tryz.func13, Tryz.ntmps13
  go_wp2_with (first
    | (go_at_call 38; refine (limits_ROUNDUP _).mono ?_; rintro e w' ⟨rfl, rfl⟩)
    | (go_at_call 40; fail))
  go_at_call 40
  refine HN.out.mono ?_
  rintro e w1 ⟨l, rfl, ho, hb⟩
  have ho := ho (by trivial)
  obtain ⟨g1, cap1, rfl, _, _⟩ := ho.form (by simp)
  have hc0 : w1.cell? ⟨g1, 0, none⟩ = some (.int .i64 a) := ho.cellAt 0 (by simp)
  have hc1 : w1.cell? ⟨g1, 1, none⟩ = some (.int .i64 (p * 10000)) := ho.cellAt 1 (by simp)
  have hT1 := hT.below hb
  clear ho HN hT
  simp only [List.length_cons, List.length_nil, Nat.reduceAdd]
  go_wp2_with (first
    | (go_at_call 46; refine (places_two _ _ p _ hc1 hk).mono ?_; rintro e w' ⟨rfl, rfl⟩)
    | (go_at_call 48; refine (HA.out _ hT1).mono ?_; rintro e w' ⟨rfl, k, rfl⟩))
  all_goals go_ret
  all_goals exact ⟨rfl, by first | exact below_drewN hb _ | exact hb⟩
set_option maxHeartbeats 1600000 in
set_option maxRecDepth 100000 in
theorem call_ROUNDDOWN (vs : List V) (g cap : Nat) (a p : Int) (v : V) (w : World) (hG : GM w) (hT : GT w) (hA : ArgsAt w g vs) (hs : ∀ v ∈ vs, v.short 4294967) (hlen : vs.length = 2) (hnum : nums vs [] = ([a, (p * 10000)], 0))
    (ha : -999999999999999999 ≤ a ∧ a ≤ 999999999999999999) (hp : p = 0 ∨ p = 1 ∨ p = 2 ∨ p = 3 ∨ p = 4) (hv : V.num (Tab.truncS a p) = v) :
    Calls Tryz.prog 13 #[.string ⟨#[82, 79, 85, 78, 68, 68, 79, 87, 78]⟩, .slice (some ⟨g, 0, none⟩) 2 cap] w fun e w' => e = .returned v.val ∧ Below w.heap.size w w' := by
  have HN := Lib.hid (hlen ▸ numbers_any vs g cap w hG hA hs (by omega) _ hnum)
  have hk : 0 ≤ p ∧ p ≤ 20 := by omega
  have HA := Lib.hid fun w hT => trunc_any a p w hT ha
  generalize Tab.truncS a p = t at *
  subst hv
  clear hp ha
  clear hA hs hnum hlen hG
  go_enter Tryz.func13, Tryz.ntmps13
  go_wp2_with (first
    | (go_at_call 38; refine (limits_ROUNDDOWN _).mono ?_; rintro e w' ⟨rfl, rfl⟩)
    | (go_at_call 40; fail))
  go_at_call 40
  refine HN.out.mono ?_
  rintro e w1 ⟨l, rfl, ho, hb⟩
  have ho := ho (by trivial)
  obtain ⟨g1, cap1, rfl, _, _⟩ := ho.form (by simp)
  have hc0 : w1.cell? ⟨g1, 0, none⟩ = some (.int .i64 a) := ho.cellAt 0 (by simp)
  have hc1 : w1.cell? ⟨g1, 1, none⟩ = some (.int .i64 (p * 10000)) := ho.cellAt 1 (by simp)
  have hT1 := hT.below hb
  clear ho HN hT
  simp only [List.length_cons, List.length_nil, Nat.reduceAdd]
  go_wp2_with (first
    | (go_at_call 46; refine (places_two _ _ p _ hc1 hk).mono ?_; rintro e w' ⟨rfl, rfl⟩)
    | (go_at_call 45; refine (HA.out _ hT1).mono ?_; rintro e w' ⟨rfl, rfl⟩))
  all_goals go_ret
  all_goals exact ⟨rfl, by first | exact below_drewN hb _ | exact hb⟩
set_option maxHeartbeats 1600000 in
set_option maxRecDepth 100000 in
theorem call_ROUND (vs : List V) (g cap : Nat) (a p : Int) (v : V) (w : World) (hG : GM w) (hT : GT w) (hA : ArgsAt w g vs) (hs : ∀ v ∈ vs, v.short 4294967) (hlen : vs.length = 2) (hnum : nums vs [] = ([a, (p * 10000)], 0))
    (m : Int) (ok : Bool) (ha : -999999999999999999 ≤ a ∧ a ≤ 999999999999999999) (hp : p = 0 ∨ p = 1 ∨ p = 2 ∨ p = 3 ∨ p = 4) (hr : Tab.roundS a p = (m, ok)) (hv : (if ok then V.num m else V.fail 2) = v) :
    Calls Tryz.prog 13 #[.string ⟨#[82, 79, 85, 78, 68]⟩, .slice (some ⟨g, 0, none⟩) 2 cap] w fun e w' => e = .returned v.val ∧ Below w.heap.size w w' := by
  have HN := Lib.hid (hlen ▸ numbers_any vs g cap w hG hA hs (by omega) _ hnum)
  have hk : 0 ≤ p ∧ p ≤ 20 := by omega
  have HA := Lib.hid (round_gt a p m ok ha hr)
  have HC := Lib.hid fun w => counted_v m ok v w hv
  clear hv hr hp ha
  clear hA hs hnum hlen hG
  go_enter Tryz.func13, Tryz.ntmps13
  go_wp2_with (first
    | (go_at_call 38; refine (limits_ROUND _).mono ?_; rintro e w' ⟨rfl, rfl⟩)
    | (go_at_call 40; fail))
  go_at_call 40
  refine HN.out.mono ?_
  rintro e w1 ⟨l, rfl, ho, hb⟩
  have ho := ho (by trivial)
  obtain ⟨g1, cap1, rfl, _, _⟩ := ho.form (by simp)
  have hc0 : w1.cell? ⟨g1, 0, none⟩ = some (.int .i64 a) := ho.cellAt 0 (by simp)
  have hc1 : w1.cell? ⟨g1, 1, none⟩ = some (.int .i64 (p * 10000)) := ho.cellAt 1 (by simp)
  have hT1 := hT.below hb
  clear ho HN hT
  simp only [List.length_cons, List.length_nil, Nat.reduceAdd]
  go_wp2_with (first
    | (go_at_call 46; refine (places_two _ _ p _ hc1 hk).mono ?_; rintro e w' ⟨rfl, rfl⟩)
    | (go_at_call 47; refine (HA.out _ hT1).mono ?_; rintro e w' ⟨rfl, rfl⟩)
    | (go_at_call 43; refine (HC.out _).mono ?_; rintro e w' ⟨rfl, rfl⟩))
  all_goals go_ret
  all_goals exact ⟨rfl, by first | exact below_drewN hb _ | exact hb⟩
set_option maxHeartbeats 1600000 in
set_option maxRecDepth 100000 in
theorem call_QUOTIENT (vs : List V) (g cap : Nat) (a b : Int) (v : V) (w : World) (hG : GM w) (hT : GT w) (hA : ArgsAt w g vs) (hs : ∀ v ∈ vs, v.short 4294967) (hlen : vs.length = 2) (hnum : nums vs [] = ([a, b], 0))
    (ha : 0 ≤ a ∧ a ≤ 999999999999999999) (hb : 1 ≤ b ∧ b ≤ 999999999999999999) (hv : (if a / b ≤ 99999999999999 then V.num (a / b * 10000) else V.fail 2) = v) :
    Calls Tryz.prog 13 #[.string ⟨#[81, 85, 79, 84, 73, 69, 78, 84]⟩, .slice (some ⟨g, 0, none⟩) 2 cap] w fun e w' => e = .returned v.val ∧ Below w.heap.size w w' := by
  have HN := Lib.hid (hlen ▸ numbers_any vs g cap w hG hA hs (by omega) _ hnum)
  have HA := Lib.hid fun w => quotient_is a b v w ha hb hv
  clear hv ha hb
  clear hA hs hnum hlen hG
  go_enter Tryz.func13, Tryz.ntmps13
  go_wp2_with (first
    | (go_at_call 38; refine (limits_QUOTIENT _).mono ?_; rintro e w' ⟨rfl, rfl⟩)
    | (go_at_call 40; fail))
  go_at_call 40
  refine HN.out.mono ?_
  rintro e w1 ⟨l, rfl, ho, hb⟩
  have ho := ho (by trivial)
  obtain ⟨g1, cap1, rfl, _, _⟩ := ho.form (by simp)
  have hc0 : w1.cell? ⟨g1, 0, none⟩ = some (.int .i64 a) := ho.cellAt 0 (by simp)
  have hc1 : w1.cell? ⟨g1, 1, none⟩ = some (.int .i64 b) := ho.cellAt 1 (by simp)
  have hT1 := hT.below hb
  clear ho HN hT
  simp only [List.length_cons, List.length_nil, Nat.reduceAdd]
  go_wp2_with (first
    | (go_at_call 53; refine (HA.out _).mono ?_; rintro e w' ⟨rfl, k, rfl⟩))
  all_goals go_ret
  all_goals exact ⟨rfl, by first | exact below_drewN hb _ | exact hb⟩
set_option maxHeartbeats 1600000 in
set_option maxRecDepth 100000 in
theorem call_MOD (vs : List V) (g cap : Nat) (a b : Int) (v : V) (w : World) (hG : GM w) (hT : GT w) (hA : ArgsAt w g vs) (hs : ∀ v ∈ vs, v.short 4294967) (hlen : vs.length = 2) (hnum : nums vs [] = ([a, b], 0))
    (hb : 1 ≤ b ∧ b ≤ 999999999999999999) (hv : V.num (Int.fmod a b) = v) :
    Calls Tryz.prog 13 #[.string ⟨#[77, 79, 68]⟩, .slice (some ⟨g, 0, none⟩) 2 cap] w fun e w' => e = .returned v.val ∧ Below w.heap.size w w' := by
  have HN := Lib.hid (hlen ▸ numbers_any vs g cap w hG hA hs (by omega) _ hnum)
  have HA := Lib.hid fun w => mod_any a b w (by omega) (by omega)
  have hb0 : (b == 0) = false := by rw [beq_eq_false_iff_ne]; omega
  generalize Int.fmod a b = m at *
  have HC := Lib.hid fun w => counted_v m true v w hv
  clear hv hb
  clear hA hs hnum hlen hG
  go_enter Tryz.func13, Tryz.ntmps13
  go_wp2_with (first
    | (go_at_call 38; refine (limits_MOD _).mono ?_; rintro e w' ⟨rfl, rfl⟩)
    | (go_at_call 40; fail))
  go_at_call 40
  refine HN.out.mono ?_
  rintro e w1 ⟨l, rfl, ho, hb⟩
  have ho := ho (by trivial)
  obtain ⟨g1, cap1, rfl, _, _⟩ := ho.form (by simp)
  have hc0 : w1.cell? ⟨g1, 0, none⟩ = some (.int .i64 a) := ho.cellAt 0 (by simp)
  have hc1 : w1.cell? ⟨g1, 1, none⟩ = some (.int .i64 b) := ho.cellAt 1 (by simp)
  have hT1 := hT.below hb
  clear ho HN hT
  simp only [List.length_cons, List.length_nil, Nat.reduceAdd]
  go_wp2_with (first
    | (go_at_call 52; refine (HA.out _).mono ?_; rintro e w' ⟨rfl, rfl⟩)
    | (go_at_call 43; refine (HC.out _).mono ?_; rintro e w' ⟨rfl, rfl⟩))
  all_goals go_ret
  all_goals exact ⟨rfl, by first | exact below_drewN hb _ | exact hb⟩
end Go.Proofs.YtkobkeopajohiaaGreatDoor
