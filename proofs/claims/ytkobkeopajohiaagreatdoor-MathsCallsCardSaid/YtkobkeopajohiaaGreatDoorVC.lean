/-
  FUNCTIONS OF NUMBERS, called at two numbers: rounded, quotients, what is left.
  FUNCTIONS OF NUMBERS: the greatest common divisor, the least common multiple.
  ARGUMENTS GATHERED, one behind the other.
  THE LAW HELPER one OF LAYER 16: a function of two numbers.
  PLAIN DATA AS ARGUMENTS.
  CONTRACT of the helper awake of layer 16: it answers true.
-/
import Derived.Test.YtkobkeopajohiaaGreatDoorVB
import Derived.Test.YtkobkeopajohiaaGreatDoorQQ
import Derived.BigQuiet
import Derived.Deep.QuietTactic
import Derived.Deep.AppendLies
import Derived.LoopTactic
import Derived.Test.YtkobkeopajohiaaGreatDoorVA
namespace Go.Proofs.YtkobkeopajohiaaGreatDoor
open Go.RowKit Go.Lib
set_option maxRecDepth 100000 in
theorem limits_ROUNDUP (w : World) : Calls Tryz.prog 38 #[.string ⟨#[82, 79, 85, 78, 68, 85, 80]⟩] w fun e w' => e = .returned (.tuple #[.int .i64 1, .int .i64 2]) ∧ w = w' := by
  go_enter Tryz.func38, Tryz.ntmps38
  go_wp2
  go_ret2
  exact ⟨rfl, rfl⟩
set_option maxRecDepth 100000 in
theorem limits_ROUNDDOWN (w : World) : Calls Tryz.prog 38 #[.string ⟨#[82, 79, 85, 78, 68, 68, 79, 87, 78]⟩] w fun e w' => e = .returned (.tuple #[.int .i64 1, .int .i64 2]) ∧ w = w' := by
  go_enter Tryz.func38, Tryz.ntmps38
  go_wp2
  go_ret2
  exact ⟨rfl, rfl⟩
set_option maxRecDepth 100000 in
theorem limits_ROUND (w : World) : Calls Tryz.prog 38 #[.string ⟨#[82, 79, 85, 78, 68]⟩] w fun e w' => e = .returned (.tuple #[.int .i64 1, .int .i64 2]) ∧ w = w' := by
  go_enter Tryz.func38, Tryz.ntmps38
  go_wp2
  go_ret2
  exact ⟨rfl, rfl⟩
set_option maxRecDepth 100000 in
theorem limits_QUOTIENT (w : World) : Calls Tryz.prog 38 #[.string ⟨#[81, 85, 79, 84, 73, 69, 78, 84]⟩] w fun e w' => e = .returned (.tuple #[.int .i64 2, .int .i64 2]) ∧ w = w' := by
  go_enter Tryz.func38, Tryz.ntmps38
  go_wp2
  go_ret2
  exact ⟨rfl, rfl⟩
set_option maxRecDepth 100000 in
theorem limits_MOD (w : World) : Calls Tryz.prog 38 #[.string ⟨#[77, 79, 68]⟩] w fun e w' => e = .returned (.tuple #[.int .i64 2, .int .i64 2]) ∧ w = w' := by
  go_enter Tryz.func38, Tryz.ntmps38
  go_wp2
  go_ret2
  exact ⟨rfl, rfl⟩
set_option maxRecDepth 100000 in
theorem limits_GCD (w : World) : Calls Tryz.prog 38 #[.string ⟨#[71, 67, 68]⟩] w fun e w' => e = .returned (.tuple #[.int .i64 1, .int .i64 30]) ∧ w = w' := by
  go_enter Tryz.func38, Tryz.ntmps38
  go_wp2
  go_ret2
  exact ⟨rfl, rfl⟩
set_option maxRecDepth 100000 in
theorem limits_LCM (w : World) : Calls Tryz.prog 38 #[.string ⟨#[76, 67, 77]⟩] w fun e w' => e = .returned (.tuple #[.int .i64 1, .int .i64 30]) ∧ w = w' := by
  go_enter Tryz.func38, Tryz.ntmps38
  go_wp2
  go_ret2
  exact ⟨rfl, rfl⟩
theorem round_gt (a p n : Int) (ok : Bool) (ha : -999999999999999999 ≤ a ∧ a ≤ 999999999999999999) (h : Tab.roundS a p = (n, ok)) (w : World) (hG : GT w) :
    Calls Tryz.prog 47 #[.int .i64 a, .int .i64 p] w fun e w' => e = .returned (.tuple #[.int .i64 n, .bool ok]) ∧ w = w' := by
  have := round_any a p w hG ha
  rw [h] at this
  exact this
set_option maxRecDepth 100000 in
theorem quotient_is (a b : Int) (v : V) (w : World) (ha : 0 ≤ a ∧ a ≤ 999999999999999999) (hb : 1 ≤ b ∧ b ≤ 999999999999999999) (hv : (if a / b ≤ 99999999999999 then V.num (a / b * 10000) else V.fail 2) = v) :
    Calls Tryz.prog 53 #[.int .i64 a, .int .i64 b] w fun e w' => e = .returned v.val ∧ ∃ n, w' = w.drewN n := by
  obtain ⟨a0, a1⟩ := ha
  obtain ⟨b0, b1⟩ := hb
  have hb0 : (b == 0) = false := by rw [beq_eq_false_iff_ne]; omega
  have q0 := Int.ediv_nonneg a0 (show 0 ≤ b by omega)
  have q1 := Int.ediv_le_self b a0
  obtain ⟨m, ok, HI, hv'⟩ : ∃ m ok, Hid (∀ w, Calls Tryz.prog 120 #[.int .i64 (a / b)] w fun e w' => e = .returned (.tuple #[.int .i64 m, .bool ok]) ∧ w = w') ∧ (if ok then V.num m else V.fail 2) = v := by
    by_cases h : a / b ≤ 99999999999999
    · rw [if_pos h] at hv
      exact ⟨_, _, Lib.hid fun w => int_yes (a / b) w (by omega), hv⟩
    · rw [if_neg h] at hv
      exact ⟨_, _, Lib.hid fun w => int_no (a / b) w (by omega) (by omega), hv⟩
  have HC := Lib.hid fun w => counted_v m ok v w hv'
  clear hv hv'
  go_enter Tryz.func53, Tryz.ntmps53
  go_wp2_with (first
    | (go_at_call 120; refine (HI.out _).mono ?_; rintro e w' ⟨rfl, rfl⟩)
    | (go_at_call 43; refine (HC.out _).mono ?_; rintro e w' ⟨rfl, rfl⟩))
  go_ret
  exact ⟨rfl, 0, rfl⟩
set_option maxHeartbeats 1600000 in
set_option maxRecDepth 100000 in
theorem call_ROUNDUP (vs : List V) (g cap : Nat) (a p : Int) (v : V) (w : World) (hG : GM w) (hT : GT w) (hA : ArgsAt w g vs) (hs : ∀ v ∈ vs, v.short 4294967) (hlen : vs.length = 2) (hnum : nums vs [] = ([a, (p * 10000)], 0))
    (ha : -999999999999999999 ≤ a ∧ a ≤ 999999999999999999) (hp : p = 0 ∨ p = 1 ∨ p = 2 ∨ p = 3 ∨ p = 4) (hv : awayV a p = v) :
    Calls Tryz.prog 13 #[.string ⟨#[82, 79, 85, 78, 68, 85, 80]⟩, .slice (some ⟨g, 0, none⟩) 2 cap] w fun e w' => e = .returned v.val ∧ Below w.heap.size w w' := by
  have HN := Lib.hid (hlen ▸ numbers_any vs g cap w hG hA hs (by omega) _ hnum)
  have hk : 0 ≤ p ∧ p ≤ 20 := by omega
  have HA := Lib.hid fun w hT => away_is a p v w hT ha hp hv
  clear hv hp ha
  clear hA hs hnum hlen hG
  go_enter Tryz.func13, Tryz.ntmps13
  go_wp2_with (first
    | (go_at_call 38; refine (limits_ROUNDUP _).mono ?_; rintro e w' ⟨rfl, rfl⟩)
    | (go_at_call 40; fail))
  go_at_call 40
  refine HN.out.mono ?_
  rintro e w1 ⟨l, rfl, ho, hb⟩
  have ho := ho (by trivial)
  obtain ⟨g1, cap1, rfl, _, _⟩ := ho.form (by simp)
  have hc0 : w1.cell? ⟨g1, 0, none⟩ = some (.int .i64 a) := ho.cellAt 0 (by simp)
  have hc1 : w1.cell? ⟨g1, 1, none⟩ = some (.int .i64 (p * 10000)) := ho.cellAt 1 (by simp)
  have hT1 := hT.below hb
  clear ho HN hT
  simp only [List.length_cons, List.length_nil, Nat.reduceAdd]
  go_wp2_with (first
    | (go_at_call 46; refine (places_two _ _ p _ hc1 hk).mono ?_; rintro e w' ⟨rfl, rfl⟩)
    | (go_at_call 48; refine (HA.out _ hT1).mono ?_; rintro e w' ⟨rfl, k, rfl⟩))
  all_goals go_ret
  all_goals exact ⟨rfl, by first | exact below_drewN hb _ | exact hb⟩
set_option maxHeartbeats 1600000 in
set_option maxRecDepth 100000 in
theorem call_ROUNDDOWN (vs : List V) (g cap : Nat) (a p : Int) (v : V) (w : World) (hG : GM w) (hT : GT w) (hA : ArgsAt w g vs) (hs : ∀ v ∈ vs, v.short 4294967) (hlen : vs.length = 2) (hnum : nums vs [] = ([a, (p * 10000)], 0))
    (ha : -999999999999999999 ≤ a ∧ a ≤ 999999999999999999) (hp : p = 0 ∨ p = 1 ∨ p = 2 ∨ p = 3 ∨ p = 4) (hv : V.num (Tab.truncS a p) = v) :
    Calls Tryz.prog 13 #[.string ⟨#[82, 79, 85, 78, 68, 68, 79, 87, 78]⟩, .slice (some ⟨g, 0, none⟩) 2 cap] w fun e w' => e = .returned v.val ∧ Below w.heap.size w w' := by
  have HN := Lib.hid (hlen ▸ numbers_any vs g cap w hG hA hs (by omega) _ hnum)
  have hk : 0 ≤ p ∧ p ≤ 20 := by omega
  have HA := Lib.hid fun w hT => trunc_any a p w hT ha
  generalize Tab.truncS a p = t at *
  subst hv
  clear hp ha
  clear hA hs hnum hlen hG
  go_enter Tryz.func13, Tryz.ntmps13
  go_wp2_with (first
    | (go_at_call 38; refine (limits_ROUNDDOWN _).mono ?_; rintro e w' ⟨rfl, rfl⟩)
    | (go_at_call 40; fail))
  go_at_call 40
  refine HN.out.mono ?_
  rintro e w1 ⟨l, rfl, ho, hb⟩
  have ho := ho (by trivial)
  obtain ⟨g1, cap1, rfl, _, _⟩ := ho.form (by simp)
  have hc0 : w1.cell? ⟨g1, 0, none⟩ = some (.int .i64 a) := ho.cellAt 0 (by simp)
  have hc1 : w1.cell? ⟨g1, 1, none⟩ = some (.int .i64 (p * 10000)) := ho.cellAt 1 (by simp)
  have hT1 := hT.below hb
  clear ho HN hT
  simp only [List.length_cons, List.length_nil, Nat.reduceAdd]
  go_wp2_with (first
    | (go_at_call 46; refine (places_two _ _ p _ hc1 hk).mono ?_; rintro e w' ⟨rfl, rfl⟩)
    | (go_at_call 45; refine (HA.out _ hT1).mono ?_; rintro e w' ⟨rfl, rfl⟩))
  all_goals go_ret
  all_goals exact ⟨rfl, by first | exact below_drewN hb _ | exact hb⟩
set_option maxHeartbeats 1600000 in
set_option maxRecDepth 100000 in
theorem call_ROUND (vs : List V) (g cap : Nat) (a p : Int) (v : V) (w : World) (hG : GM w) (hT : GT w) (hA : ArgsAt w g vs) (hs : ∀ v ∈ vs, v.short 4294967) (hlen : vs.length = 2) (hnum : nums vs [] = ([a, (p * 10000)], 0))
    (m : Int) (ok : Bool) (ha : -999999999999999999 ≤ a ∧ a ≤ 999999999999999999) (hp : p = 0 ∨ p = 1 ∨ p = 2 ∨ p = 3 ∨ p = 4) (hr : Tab.roundS a p = (m, ok)) (hv : (if ok then V.num m else V.fail 2) = v) :
    Calls Tryz.prog 13 #[.string ⟨#[82, 79, 85, 78, 68]⟩, .slice (some ⟨g, 0, none⟩) 2 cap] w fun e w' => e = .returned v.val ∧ Below w.heap.size w w' := by
  have HN := Lib.hid (hlen ▸ numbers_any vs g cap w hG hA hs (by omega) _ hnum)
  have hk : 0 ≤ p ∧ p ≤ 20 := by omega
  have HA := Lib.hid (round_gt a p m ok ha hr)
  have HC := Lib.hid fun w => counted_v m ok v w hv
  clear hv hr hp ha
  clear hA hs hnum hlen hG
  go_enter Tryz.func13, Tryz.ntmps13
  go_wp2_with (first
    | (go_at_call 38; refine (limits_ROUND _).mono ?_; rintro e w' ⟨rfl, rfl⟩)
    | (go_at_call 40; fail))
  go_at_call 40
  refine HN.out.mono ?_
  rintro e w1 ⟨l, rfl, ho, hb⟩
  have ho := ho (by trivial)
  obtain ⟨g1, cap1, rfl, _, _⟩ := ho.form (by simp)
  have hc0 : w1.cell? ⟨g1, 0, none⟩ = some (.int .i64 a) := ho.cellAt 0 (by simp)
  have hc1 : w1.cell? ⟨g1, 1, none⟩ = some (.int .i64 (p * 10000)) := ho.cellAt 1 (by simp)
  have hT1 := hT.below hb
  clear ho HN hT
  simp only [List.length_cons, List.length_nil, Nat.reduceAdd]
  go_wp2_with (first
    | (go_at_call 46; refine (places_two _ _ p _ hc1 hk).mono ?_; rintro e w' ⟨rfl, rfl⟩)
    | (go_at_call 47; refine (HA.out _ hT1).mono ?_; rintro e w' ⟨rfl, rfl⟩)
    | (go_at_call 43; refine (HC.out _).mono ?_; rintro e w' ⟨rfl, rfl⟩))
  all_goals go_ret
  all_goals exact ⟨rfl, by first | exact below_drewN hb _ | exact hb⟩
set_option maxHeartbeats 1600000 in
set_option maxRecDepth 100000 in
theorem call_QUOTIENT (vs : List V) (g cap : Nat) (a b : Int) (v : V) (w : World) (hG : GM w) (hT : GT w) (hA : ArgsAt w g vs) (hs : ∀ v ∈ vs, v.short 4294967) (hlen : vs.length = 2) (hnum : nums vs [] = ([a, b], 0))
    (ha : 0 ≤ a ∧ a ≤ 999999999999999999) (hb : 1 ≤ b ∧ b ≤ 999999999999999999) (hv : (if a / b ≤ 99999999999999 then V.num (a / b * 10000) else V.fail 2) = v) :
    Calls Tryz.prog 13 #[.string ⟨#[81, 85, 79, 84, 73, 69, 78, 84]⟩, .slice (some ⟨g, 0, none⟩) 2 cap] w fun e w' => e = .returned v.val ∧ Below w.heap.size w w' := by
  have HN := Lib.hid (hlen ▸ numbers_any vs g cap w hG hA hs (by omega) _ hnum)
  have HA := Lib.hid fun w => quotient_is a b v w ha hb hv
  clear hv ha hb
  clear hA hs hnum hlen hG
  go_enter Tryz.func13, Tryz.ntmps13
  go_wp2_with (first
    | (go_at_call 38; refine (limits_QUOTIENT _).mono ?_; rintro e w' ⟨rfl, rfl⟩)
    | (go_at_call 40; fail))
  go_at_call 40
  refine HN.out.mono ?_
  rintro e w1 ⟨l, rfl, ho, hb⟩
  have ho := ho (by trivial)
  obtain ⟨g1, cap1, rfl, _, _⟩ := ho.form (by simp)
  have hc0 : w1.cell? ⟨g1, 0, none⟩ = some (.int .i64 a) := ho.cellAt 0 (by simp)
  have hc1 : w1.cell? ⟨g1, 1, none⟩ = some (.int .i64 b) := ho.cellAt 1 (by simp)
  have hT1 := hT.below hb
  clear ho HN hT
  simp only [List.length_cons, List.length_nil, Nat.reduceAdd]
  go_wp2_with (first
    | (go_at_call 53; refine (HA.out _).mono ?_; rintro e w' ⟨rfl, k, rfl⟩))
  all_goals go_ret
  all_goals exact ⟨rfl, by first | exact below_drewN hb _ | exact hb⟩
set_option maxHeartbeats 1600000 in
set_option maxRecDepth 100000 in
theorem call_MOD (vs : List V) (g cap : Nat) (a b : Int) (v : V) (w : World) (hG : GM w) (hT : GT w) (hA : ArgsAt w g vs) (hs : ∀ v ∈ vs, v.short 4294967) (hlen : vs.length = 2) (hnum : nums vs [] = ([a, b], 0))
    (hb : 1 ≤ b ∧ b ≤ 999999999999999999) (hv : V.num (Int.fmod a b) = v) :
    Calls Tryz.prog 13 #[.string ⟨#[77, 79, 68]⟩, .slice (some ⟨g, 0, none⟩) 2 cap] w fun e w' => e = .returned v.val ∧ Below w.heap.size w w' := by
  have HN := Lib.hid (hlen ▸ numbers_any vs g cap w hG hA hs (by omega) _ hnum)
  have HA := Lib.hid fun w => mod_any a b w (by omega) (by omega)
  have hb0 : (b == 0) = false := by rw [beq_eq_false_iff_ne]; omega
  generalize Int.fmod a b = m at *
  have HC := Lib.hid fun w => counted_v m true v w hv
  clear hv hb
  clear hA hs hnum hlen hG
  go_enter Tryz.func13, Tryz.ntmps13
  go_wp2_with (first
    | (go_at_call 38; refine (limits_MOD _).mono ?_; rintro e w' ⟨rfl, rfl⟩)
    | (go_at_call 40; fail))
  go_at_call 40
  refine HN.out.mono ?_
  rintro e w1 ⟨l, rfl, ho, hb⟩
  have ho := ho (by trivial)
  obtain ⟨g1, cap1, rfl, _, _⟩ := ho.form (by simp)
  have hc0 : w1.cell? ⟨g1, 0, none⟩ = some (.int .i64 a) := ho.cellAt 0 (by simp)
  have hc1 : w1.cell? ⟨g1, 1, none⟩ = some (.int .i64 b) := ho.cellAt 1 (by simp)
  have hT1 := hT.below hb
  clear ho HN hT
  simp only [List.length_cons, List.length_nil, Nat.reduceAdd]
  go_wp2_with (first
    | (go_at_call 52; refine (HA.out _).mono ?_; rintro e w' ⟨rfl, rfl⟩)
    | (go_at_call 43; refine (HC.out _).mono ?_; rintro e w' ⟨rfl, rfl⟩))
  all_goals go_ret
  all_goals exact ⟨rfl, by first | exact below_drewN hb _ | exact hb⟩
end Go.Proofs.YtkobkeopajohiaaGreatDoor
namespace Go.Proofs.YtkobkeopajohiaaGreatDoor
open Go.RowKit Go.Lib

set_option maxRecDepth 100000 in
theorem divisor_any (a b : Nat) (w : World) (ha : a ≤ 999999999999999999) (hb : b ≤ 999999999999999999) :
    Calls Tryz.prog 123 #[.int .i64 a, .int .i64 b] w fun e w' => e = .returned (.int .i64 (Nat.gcd a b : Nat)) ∧ Below w.heap.size w w' := by
  generalize hR : Nat.gcd a b = R
  have HR := Lib.hid hR
  clear hR
  go_enter Tryz.func123, Tryz.ntmps123
  go_wp2
  go_loopw [0, 1] (fun va vb wr => ∃ x y : Nat, va = .int .i64 x ∧ vb = .int .i64 y ∧ x ≤ 999999999999999999 ∧ y ≤ 999999999999999999 ∧ Hid (Nat.gcd x y = R) ∧ Hid (Below w.heap.size w wr)) (fun _ vb _ => (RowKit.intOf vb).toNat)
  case atStart => exact ⟨a, b, rfl, rfl, ha, hb, HR, Lib.hid (Below.refl _ _)⟩
  case round =>
    obtain ⟨x, y, rfl, rfl, hx, hy, hg, hw⟩ := hrel
    by_cases h0 : 0 < y
    · have hy0 : ((y : Int) == 0) = false := by rw [beq_eq_false_iff_ne]; omega
      have hg2 : Hid (Nat.gcd y (x % y) = R) := Lib.hid (by rw [← hg.out, Nat.gcd_comm x y, Nat.gcd_rec y x, Nat.gcd_comm])
      have hlt : x % y < y := Nat.mod_lt _ h0
      have hm : Hid (((x % y : Nat) : Int) = (x : Int) % (y : Int)) := Lib.hid rfl
      go_wp2
      go_quiet (fail)
      go_wp2
      go_roundw
      case rel => exact ⟨y, x % y, rfl, by rw [hm.out], hy, by omega, hg2, Lib.hid (below_drewN hw.out _)⟩
      case measure => simp [RowKit.intOf]; omega
    · have hy0 : y = 0 := by omega
      have hxR : Hid (x = R) := Lib.hid (by rw [← hg.out, hy0, Nat.gcd_zero_right])
      go_wp2
      go_ret
      exact ⟨ret_int (by rw [hxR.out]), hw.out⟩

/-- the greatest common divisor and the least common multiple of two numbers, their places cut off -/
def lcmV (m n : Nat) : V := if m = 0 ∨ n = 0 then .num 0 else .num ((m / Nat.gcd m n * n : Nat) * 10000)
set_option maxRecDepth 100000 in
/-- the least common multiple of two whole numbers, which is small -/
theorem many_lcm (g cap : Nat) (m n : Nat) (w : World) (hm : 1 ≤ m ∧ m ≤ 1000000) (hn : 1 ≤ n ∧ n ≤ 1000000) (q : Nat) (hq : m / Nat.gcd m n = q)
    (hmul : ∀ w, Calls Tryz.prog 95 #[.int .i64 ((q : Int) * 10000), .int .i64 ((n : Int) * 10000)] w fun e w' => e = .returned (.tuple #[.int .i64 (((q * n : Nat) : Int) * 10000), .bool true]) ∧ Below w.heap.size w w')
    (h0 : w.cell? ⟨g, 0, none⟩ = some (.int .i64 ((m : Int) * 10000))) (h1 : w.cell? ⟨g, 1, none⟩ = some (.int .i64 ((n : Int) * 10000))) :
    Calls Tryz.prog 58 #[.string ⟨#[76, 67, 77]⟩, .slice (some ⟨g, 0, none⟩) 2 cap] w fun e w' => e = .returned (V.num (((q * n : Nat) : Int) * 10000)).val ∧ Below w.heap.size w w' := by
  have HM := Lib.hid hmul
  have HD := Lib.hid fun w => divisor_any m n w (by omega) (by omega)
  have hgm : Nat.gcd m n ≤ m := Nat.gcd_le_left _ (by omega)
  have hg1 : 1 ≤ Nat.gcd m n := Nat.gcd_pos_of_pos_left _ (by omega)
  have hqm : q ≤ m := by rw [← hq]; exact Nat.div_le_self _ _
  have hqn : q * n ≤ 1000000000000 := Nat.le_trans (Nat.mul_le_mul (Nat.le_trans hqm hm.2) hn.2) (by decide)
  have HQ : Hid ((m : Int) / ((Nat.gcd m n : Nat) : Int) = (q : Int)) := Lib.hid (by rw [← hq]; rfl)
  have hqb : 0 ≤ (m : Int) / ((Nat.gcd m n : Nat) : Int) ∧ (m : Int) / ((Nat.gcd m n : Nat) : Int) ≤ 1000000 := by rw [HQ.out]; omega
  have HI1 := Lib.hid fun w => int_yes (q : Int) w (by omega)
  have HI2 := Lib.hid fun w => int_yes (n : Int) w (by omega)
  have HI3 := Lib.hid fun w => int_yes ((q * n : Nat) : Int) w (by omega)
  have HW1 := Lib.hid fun w => whole_any ((m : Int) * 10000) w (by omega) (by omega)
  have HW2 := Lib.hid fun w => whole_any ((n : Int) * 10000) w (by omega) (by omega)
  have HW3 := Lib.hid fun w => whole_any (((q * n : Nat) : Int) * 10000) w (by omega) (by omega)
  rw [Int.mul_tdiv_cancel _ (by decide)] at HW1 HW2 HW3
  clear hmul hq
  obtain ⟨hqb0, hqb1⟩ := hqb
  generalize Nat.gcd m n = d at *
  generalize q * n = p at *
  go_enter Tryz.func58, Tryz.ntmps58
  go_wp2
  refine wp_loop_rounds 3 ?_
  rw [rounds_succ]
  go_wp2_with (first | (go_at_call 114; refine (HW1.out _).mono ?_; rintro e w' ⟨rfl, rfl⟩))
  rw [rounds_succ]
  have hm0 : ((m : Int) == 0) = false := by rw [beq_eq_false_iff_ne]; omega
  have hn0 : ((n : Int) == 0) = false := by rw [beq_eq_false_iff_ne]; omega
  have hd0 : ((d : Int) == 0) = false := by rw [beq_eq_false_iff_ne]; omega
  go_wp2_with (first
    | (go_at_call 114; refine (HW2.out _).mono ?_; rintro e w' ⟨rfl, rfl⟩)
    | (go_at_call 123; fail))
  go_at_call 123
  refine (HD.out _).mono ?_
  rintro e w1 ⟨rfl, hb1⟩
  go_wp2_with (first
    | (go_at_call 120; fail))
  rw [HQ.out]
  go_wp2_with (first
    | (go_at_call_of 120 (Value.int IntKind.i64 (q : Int)); refine (HI1.out _).mono ?_; rintro e w' ⟨rfl, rfl⟩)
    | (go_at_call_of 120 (Value.int IntKind.i64 (n : Int)); refine (HI2.out _).mono ?_; rintro e w' ⟨rfl, rfl⟩)
    | (go_at_call 95; fail))
  go_at_call 95
  refine (HM.out _).mono ?_
  rintro e w2 ⟨rfl, hb2⟩
  have hb12 := hb1.trans (hb2.mono hb1.size)
  go_wp2_with (first
    | (go_at_call 114; refine (HW3.out _).mono ?_; rintro e w' ⟨rfl, rfl⟩))
  rw [rounds_succ]
  go_wp2_with (first
    | (go_at_call 120; refine (HI3.out _).mono ?_; rintro e w' ⟨rfl, rfl⟩)
    | (go_at_call 43; refine (counted_yes _ _).mono ?_; rintro e w' ⟨rfl, rfl⟩))
  go_ret
  exact ⟨rfl, hb12⟩
end Go.Proofs.YtkobkeopajohiaaGreatDoor
namespace Go.Proofs.YtkobkeopajohiaaGreatDoor
open Go.RowKit Go.Lib

def argCells (r : Nat) : List Value := [.int .i64 1, .int .i64 1, .bool false, .slice (some ⟨r, 0, none⟩) 1 1]
/-- the slice v owns the arguments vs, one value each, each value in a block of its own: rs -/
def GathersR (w : World) (base : Nat) (v : Value) (vs : List V) (rs : List Nat) : Prop := rs.length = vs.length ∧ w.ownsRow base 98 4 v vs.length (rs.flatMap argCells) ∧
  ∀ (i r : Nat) (u : V), rs[i]? = some r → vs[i]? = some u → Held w r u ∧ v.ownBlock ≠ some r
theorem flat_at : ∀ (rs : List Nat) (i r j : Nat), rs[i]? = some r → j < 4 → (rs.flatMap argCells)[i * 4 + j]? = (argCells r)[j]?
  | [], i, r, j, h, _ => by simp at h
  | x :: rs, 0, r, j, h, hj => by
    simp at h; subst h
    rw [List.flatMap_cons, List.getElem?_append_left (by simp [argCells]; omega)]
    simp
  | x :: rs, i + 1, r, j, h, hj => by
    rw [List.flatMap_cons, List.getElem?_append_right (by simp [argCells]; omega)]
    have := flat_at rs i r j (by simpa using h) hj
    rw [← this]
    congr 1
    simp [argCells]; omega
theorem flat_len : ∀ rs : List Nat, (rs.flatMap argCells).length = rs.length * 4
  | [] => rfl
  | x :: rs => by rw [List.flatMap_cons, List.length_append, flat_len rs]; simp [argCells]; omega
theorem GathersR.at {w : World} {base : Nat} {v : Value} {vs : List V} {rs : List Nat} (h : GathersR w base v vs rs) (hn : 0 < vs.length) : ∃ g cap, v = .slice (some ⟨g, 0, none⟩) vs.length cap ∧ base ≤ g ∧ ArgsAt w g vs := by
  obtain ⟨hl, ho, hh⟩ := h
  obtain ⟨g, cap, rfl, hb, hg⟩ := ho.form hn
  refine ⟨g, cap, rfl, hb, hg, fun k u hk => ?_⟩
  have hk' : k < vs.length := (List.getElem?_eq_some_iff.1 hk).1
  obtain ⟨r, hr⟩ : ∃ r, rs[k]? = some r := ⟨rs[k]'(by omega), List.getElem?_eq_getElem _⟩
  refine ⟨r, (hh k r u hr hk).1, ?_, ?_, ?_, ?_⟩
  · exact (ho.cellAt (k * 4) (by omega)).trans (flat_at rs k r 0 hr (by omega))
  · exact (ho.cellAt (k * 4 + 1) (by omega)).trans (flat_at rs k r 1 hr (by omega))
  · exact (ho.cellAt (k * 4 + 2) (by omega)).trans (flat_at rs k r 2 hr (by omega))
  · exact (ho.cellAt (k * 4 + 3) (by omega)).trans (flat_at rs k r 3 hr (by omega))
theorem GathersR.nil (w : World) (base : Nat) (v : Value) (h : w.ownsRow base 98 4 v 0 []) : GathersR w base v [] [] := ⟨rfl, h, fun i r u hr => by simp at hr⟩
theorem GathersR.below {w w' : World} {base : Nat} {v : Value} {vs : List V} {rs : List Nat} (h : GathersR w base v vs rs) (hb : Below w.heap.size w w') : GathersR w' base v vs rs := by
  obtain ⟨hl, ho, hh⟩ := h
  exact ⟨hl, owns_below ho hb, fun i r u h1 h2 => ⟨(hh i r u h1 h2).1.below hb (hh i r u h1 h2).1.1, (hh i r u h1 h2).2⟩⟩
/-- more arguments: behind the append -/
theorem GathersR.more {w w' : World} {base : Nat} {v : Value} {vs us : List V} {rs rs' : List Nat} (h : GathersR w base v vs rs) (hl' : rs'.length = us.length) (hnew : ∀ (i r : Nat) (u : V), rs'[i]? = some r → us[i]? = some u → Held w r u ∧ v.ownBlock ≠ some r)
    (g cap : Nat) (hown : w'.ownsRow base 98 4 (.slice (some ⟨g, 0, none⟩) (vs.length + us.length) cap) (vs.length + us.length) (rs.flatMap argCells ++ rs'.flatMap argCells)) (hgrow : w.grownBy w' v.ownBlock) (hat : v.ownBlock = some g ∨ g = w.heap.size) :
    GathersR w' base (.slice (some ⟨g, 0, none⟩) (vs.length + us.length) cap) (vs ++ us) (rs ++ rs') := by
  obtain ⟨hl, ho, hh⟩ := h
  have key : ∀ r u, (Held w r u ∧ v.ownBlock ≠ some r) → (Held w' r u ∧ (Value.slice (some ⟨g, 0, none⟩) (vs.length + us.length) cap).ownBlock ≠ some r) := fun r u ⟨h1, h2⟩ => by
    refine ⟨⟨Nat.lt_of_lt_of_le h1.1 hgrow.size, h1.2.imp fun _ e => (hgrow.block r h1.1 (fun e => h2 e.symm)).trans e⟩, fun e => ?_⟩
    have e' : g = r := by simpa [Value.ownBlock] using e
    rcases hat with h3 | h3
    · exact h2 (by rw [h3, e'])
    · have := h1.1; omega
  refine ⟨by simp [hl, hl'], ?_, fun i r u h1 h2 => ?_⟩
  · rw [List.length_append, List.flatMap_append]
    exact hown
  · by_cases hi : i < rs.length
    · rw [List.getElem?_append_left hi] at h1
      rw [List.getElem?_append_left (by omega)] at h2
      exact key r u (hh i r u h1 h2)
    · rw [List.getElem?_append_right (by omega)] at h1
      rw [List.getElem?_append_right (by omega), ← hl] at h2
      exact key r u (hnew _ r u h1 h2)
theorem info61 : (Tryz.prog.info? 98).map (fun i => (i.zero, i.size, i.bytes)) = some (some (.agg #[.int .i64 0, .int .i64 0, .bool false, .slice none 0 0]), 4, 48) := by kernel_rfl
end Go.Proofs.YtkobkeopajohiaaGreatDoor
namespace Go.Proofs.YtkobkeopajohiaaGreatDoor
open Go.RowKit Go.Lib

theorem owns_empty (w : World) : (w.alloc (.cells #[] 98)).ownsRow w.heap.size 98 4 (.slice (some ⟨w.heap.size, 0, none⟩) 0 0) 0 [] :=
  ⟨rfl, .inr ⟨w.heap.size, 0, #[], rfl, Nat.le_refl _, last_block _ _ _ rfl, Nat.le_refl _, Nat.zero_le _, rfl, rfl⟩⟩
theorem news_block (w : World) (cs : List Value) (T : TypeId) : ∀ (j : Nat) (u : Value), cs[j]? = some u → (w.alloc (.cells cs.toArray T)).cell? ((⟨w.heap.size, 0, none⟩ : Addr).add j) = some u := fun j u h =>
  World.news_of_block (cs := cs.toArray) (t := T) (fr := (0, 0)) (last_block _ _ _ rfl) j u (by simpa using h)
theorem argCells_one (r : Nat) : ∀ u ∈ argCells r, u.oneCell' = true := fun u hu => by
  simp [argCells] at hu
  rcases hu with rfl | rfl | rfl <;> rfl
/-- the step: one argument more, in a block of its own -/
theorem GathersR.one {w1 w3 : World} {base : Nat} {v : Value} {vs : List V} {rs : List Nat} (u : V) (r : Nat) (h : GathersR w1 base v vs rs) (hr : Held w1 r u) (hv : v.ownBlock ≠ some r)
    (o : Obj) (g cap : Nat) (hown : w3.ownsRow base 98 4 (.slice (some ⟨g, 0, none⟩) (vs.length + 1) cap) (vs.length + 1) (rs.flatMap argCells ++ argCells r)) (hgrow : (w1.alloc o).grownBy w3 v.ownBlock) (hat : v.ownBlock = some g ∨ g = (w1.alloc o).heap.size) :
    GathersR w3 base (.slice (some ⟨g, 0, none⟩) (vs.length + 1) cap) (vs ++ [u]) (rs ++ [r]) := by
  have hb : Below w1.heap.size w1 (w1.alloc o) := (Below.refl _ _).alloc (Nat.le_refl _) o
  refine (h.below hb).more (us := [u]) (rs' := [r]) rfl (fun i r' u' h1 h2 => ?_) g cap (by simpa using hown) hgrow hat
  match i, h1, h2 with
  | 0, h1, h2 =>
    simp at h1 h2; subst h1 h2
    exact ⟨hr.below hb hr.1, hv⟩

end Go.Proofs.YtkobkeopajohiaaGreatDoor
namespace Go.Proofs.YtkobkeopajohiaaGreatDoor
open Go.RowKit Go.Lib


theorem own_lt {w : World} {base : Nat} {e : TypeId} {size : Nat} {v : Value} {n : Nat} {xs : List Value} (h : w.ownsRow base e size v n xs) (k : Nat) (hk : v.ownBlock = some k) : k < w.heap.size := by
  rcases h.2 with ⟨rfl, _⟩ | ⟨g, cap, cur, rfl, h1, hg, _⟩
  · cases hk
  · have : g = k := by simpa [Value.ownBlock] using hk
    subst this
    rcases Nat.lt_or_ge g w.heap.size with h2 | h2
    · exact h2
    · rw [Array.getElem?_eq_none h2] at hg; cases hg

set_option maxHeartbeats 1600000 in
set_option maxRecDepth 100000 in
theorem args_any (b off cap : Nat) (ps : List P) (vs : List V) (hl : vs.length = ps.length) (hn : ps.length ≤ 1000) (w : World) (hps : PlainsAt w b off ps)
    (hof : ∀ (k : Nat) (p : P) (v : V), ps[k]? = some p → vs[k]? = some v → ∀ w', Below w.heap.size w w' → Calls Tryz.prog 60 #[(p.cut 60).val] w' fun e w'' => e = .returned v.val ∧ Below w'.heap.size w' w'') :
    Calls Tryz.prog 14 #[.slice (some ⟨b, off, none⟩) ps.length cap] w fun e w' => ∃ l rs, e = .returned l ∧ GathersR w' w.heap.size l vs rs ∧ Below w.heap.size w w' := by
  obtain ⟨i0, hi, hz0, hz1, hz2⟩ := info_parts info61
  have HOF := Lib.hid hof
  have HPS := Lib.hid hps
  obtain ⟨n, hnn⟩ : ∃ n, n = ps.length := ⟨_, rfl⟩
  have HN := Lib.hid hnn
  have HL := Lib.hid hl
  rw [← hnn] at hn ⊢
  clear hof hps hnn hl
  go_enter Tryz.func14, Tryz.ntmps14
  go_wp2
  go_loopw [3, 9] (fun l i wr => ∃ (k : Nat) (rs : List Nat), i = .int .i64 k ∧ k ≤ n ∧ Hid (GathersR wr w.heap.size l (vs.take k) rs) ∧ Below w.heap.size w wr)
    (fun _ i _ => n - (RowKit.intOf i).toNat)
  case atStart => exact ⟨0, [], rfl, Nat.zero_le _, Lib.hid (GathersR.nil _ _ _ (owns_empty w)), (Below.refl _ _).alloc (Nat.le_refl _) _⟩
  case round =>
    obtain ⟨k, rs, rfl, hk, hg, hbl⟩ := hrel
    have hsz := hbl.size
    by_cases hkn : k < n
    · obtain ⟨p, hp⟩ : ∃ p, ps[k]? = some p := ⟨ps[k]'(by rw [← HN.out]; exact hkn), List.getElem?_eq_getElem _⟩
      obtain ⟨v, hv⟩ : ∃ v, vs[k]? = some v := ⟨vs[k]'(by rw [HL.out, ← HN.out]; exact hkn), List.getElem?_eq_getElem _⟩
      obtain ⟨hc0, hc1, hc2⟩ := (HPS.out.below hbl HPS.out.1).2 k p hp
      have HF := Lib.hid (HOF.out k p v hp hv)
      have HT := Lib.hid (show vs.take (k + 1) = vs.take k ++ [v] by
        obtain ⟨e1, e2⟩ := List.getElem?_eq_some_iff.1 hv
        rw [List.take_add_one, hv]; rfl)
      have HLk := Lib.hid (show (vs.take k).length = k by rw [List.length_take, HL.out, ← HN.out]; omega)
      have HCut := Lib.hid fun w => lawCut_any p.s ⟨(p.s.data.toList.take 60).toArray⟩ 60 w rfl
      clear hp hv
      unfold P.val P.cut at HF
      simp only at HF
      generalize (⟨(p.s.data.toList.take 60).toArray⟩ : ByteArray) = t at *
      generalize p.kind = pk at *
      generalize p.n = pn at *
      generalize p.s = ps' at *
      go_wp2_with (first
        | (go_at_call 7; refine (HCut.out _).mono ?_; rintro e w' ⟨rfl, rfl⟩)
        | (go_at_call 60; fail))
      go_at_call 60
      refine (HF.out _ (by go_grown)).mono ?_
      rintro e w1 ⟨rfl, hb1⟩
      have hr1 : Below wr.heap.size wr w1 := ((Below.refl _ _).alloc (Nat.le_refl _) _).trans (hb1.mono (by simp))
      clear hb1 hc0 hc1 hc2 HF HCut
      go_wp2_with (first | (go_at_call 59; fail))
      go_at_call 59
      refine (one_any v _).mono ?_
      rintro e w2 ⟨r, rfl, hr, hh, hb2⟩
      have hr2 : Below wr.heap.size wr w2 := hr1.trans (hb2.mono hr1.size)
      have hb02 : Below w.heap.size w w2 := hbl.trans (hr2.mono hsz)
      have hA := Lib.hid (hg.out.below hr2)
      have HR := Lib.hid (show u3.ownBlock ≠ some r from fun e => by
        have := own_lt hg.out.2.1 r e
        have := hr1.size
        omega)
      have hs2 := hb02.size
      have HH := Lib.hid hh
      have HB := Lib.hid hb02
      clear hr1 hb2 hr2 hh hr hbl hg hb02
      go_wp2_with (first | (at_builtin; refine wpList_append_lies _ rfl _ _ 33 rfl w.heap.size 98 i0 _ 4 48 Tryz.underlying33 hi hz0 hz1 hz2 rfl (by decide) _ _ _ rfl (hA.out.2.1.alloc _) ⟨w2.heap.size, 0, none⟩ 1 1 (argCells r) rfl rfl (news_block _ _ _) (argCells_one r) (by decide) (by rw [HLk.out]; unfold maxLen; omega) (by rw [HLk.out]; omega) (by simp; omega) _ rfl ?_))
      intro g1 cap1 w3 hown3 hgrow3 hat3 hlt3
      have hG3 := Lib.hid (GathersR.one v r hA.out HH.out HR.out _ g1 cap1 (by simpa using hown3) hgrow3 (by simpa using hat3))
      have hb03 := Lib.hid ((HB.out.alloc hs2 _).grown hgrow3 (by simp; omega) (owns_row hA.out.2.1))
      clear hown3 hgrow3 hat3 hlt3 HH HR HB hA
      go_wp2
      go_roundw
      case rel => exact ⟨k + 1, rs ++ [r], rfl, by omega, Lib.hid (by have := hG3.out; rw [List.length_take] at this; rw [HT.out]; exact this), hb03.out⟩
      case measure => simp [RowKit.intOf]; omega
    · have hkk : k = n := by omega
      have hv : Hid (vs.take k = vs) := Lib.hid (List.take_of_length_le (by rw [HL.out, ← HN.out]; omega))
      rw [hv.out] at hg
      go_wp2
      go_ret
      exact ⟨_, rs, rfl, hg.out, hbl⟩
end Go.Proofs.YtkobkeopajohiaaGreatDoor
namespace Go.Proofs.YtkobkeopajohiaaGreatDoor
open Go.RowKit Go.Lib

set_option maxHeartbeats 1600000 in
set_option maxRecDepth 100000 in
theorem call_LCM (vs : List V) (g cap : Nat) (m n q : Nat) (w : World) (hG : GM w) (hA : ArgsAt w g vs) (hs : ∀ v ∈ vs, v.short 4294967) (hlen : vs.length = 2) (hnum : nums vs [] = ([(m : Int) * 10000, (n : Int) * 10000], 0))
    (hm : 1 ≤ m ∧ m ≤ 1000000) (hn : 1 ≤ n ∧ n ≤ 1000000) (hq : m / Nat.gcd m n = q)
    (hmul : ∀ w, Calls Tryz.prog 95 #[.int .i64 ((q : Int) * 10000), .int .i64 ((n : Int) * 10000)] w fun e w' => e = .returned (.tuple #[.int .i64 (((q * n : Nat) : Int) * 10000), .bool true]) ∧ Below w.heap.size w w') :
    Calls Tryz.prog 13 #[.string ⟨#[76, 67, 77]⟩, .slice (some ⟨g, 0, none⟩) 2 cap] w fun e w' => e = .returned (V.num (((q * n : Nat) : Int) * 10000)).val ∧ Below w.heap.size w w' := by
  have HN := Lib.hid (hlen ▸ numbers_any vs g cap w hG hA hs (by omega) _ hnum)
  have HM := Lib.hid fun g cap w h0 h1 => many_lcm g cap m n w hm hn q hq hmul h0 h1
  clear hA hs hnum hlen hG hm hn hq hmul
  generalize (((q * n : Nat) : Int) * 10000) = p at *
  generalize (m : Int) * 10000 = a at *
  generalize (n : Int) * 10000 = b at *
  go_enter Tryz.func13, Tryz.ntmps13
  go_wp2_with (first
    | (go_at_call 38; refine (limits_LCM _).mono ?_; rintro e w' ⟨rfl, rfl⟩)
    | (go_at_call 40; fail))
  go_at_call 40
  refine HN.out.mono ?_
  rintro e w1 ⟨l, rfl, ho, hb⟩
  have ho := ho (by trivial)
  obtain ⟨g1, cap1, rfl, _, _⟩ := ho.form (by simp)
  have hc0 : w1.cell? ⟨g1, 0, none⟩ = some (.int .i64 a) := ho.cellAt 0 (by simp)
  have HC1 : Hid (w1.cell? ⟨g1, 1, none⟩ = some (.int .i64 b)) := Lib.hid (ho.cellAt 1 (by simp))
  clear ho HN
  simp only [List.length_cons, List.length_nil, Nat.reduceAdd]
  go_wp2_with (first | (go_at_call 58; fail))
  go_at_call 58
  refine (HM.out g1 cap1 w1 hc0 HC1.out).mono ?_
  rintro e w2 ⟨rfl, hb2⟩
  have hb12 := hb.trans (hb2.mono hb.size)
  go_wp2
  go_ret
  exact ⟨rfl, hb12⟩

theorem plains_two (w : World) (p q : P) : PlainsAt (w.alloc (.cells #[.int .i64 p.kind, .int .i64 p.n, .string p.s, .int .i64 q.kind, .int .i64 q.n, .string q.s] 41)) w.heap.size 0 [p, q] :=
  ⟨by simp, fun k r h => by
    match k, h with
    | 0, h => simp at h; subst h; exact ⟨by rw [World.cell?_alloc_at _ _ _ _ rfl]; rfl, by rw [World.cell?_alloc_at _ _ _ _ rfl]; rfl, by rw [World.cell?_alloc_at _ _ _ _ rfl]; rfl⟩
    | 1, h => simp at h; subst h; exact ⟨by rw [World.cell?_alloc_at _ _ _ _ rfl]; rfl, by rw [World.cell?_alloc_at _ _ _ _ rfl]; rfl, by rw [World.cell?_alloc_at _ _ _ _ rfl]; rfl⟩⟩
theorem args_lcm (w : World) (cap : Nat) (b : Nat) (h : PlainsAt w b 0 [⟨1, 40000, ByteArray.empty⟩, ⟨2, 0, ⟨#[54]⟩⟩]) :
    Calls Tryz.prog 14 #[.slice (some ⟨b, 0, none⟩) 2 cap] w fun e w' => ∃ l rs, e = .returned l ∧ GathersR w' w.heap.size l [.num 40000, .text ⟨#[54]⟩] rs ∧ Below w.heap.size w w' :=
  args_any b 0 cap [⟨1, 40000, ByteArray.empty⟩, ⟨2, 0, ⟨#[54]⟩⟩] [.num 40000, .text ⟨#[54]⟩] rfl (by decide) w h fun k p v h1 h2 w' _ => by
    match k, h1, h2 with
    | 0, h1, h2 => simp at h1 h2; subst h1 h2; exact of_num 40000 w' _ (by omega)
    | 1, h1, h2 => simp at h1 h2; subst h1 h2; exact of_text 1 0 ⟨#[54]⟩ w' signs_six (by decide)
theorem args_up (w : World) (cap : Nat) (b : Nat) (h : PlainsAt w b 0 [⟨1, 12100, ByteArray.empty⟩, ⟨1, 10000, ByteArray.empty⟩]) :
    Calls Tryz.prog 14 #[.slice (some ⟨b, 0, none⟩) 2 cap] w fun e w' => ∃ l rs, e = .returned l ∧ GathersR w' w.heap.size l [.num 12100, .num 10000] rs ∧ Below w.heap.size w w' :=
  args_any b 0 cap [⟨1, 12100, ByteArray.empty⟩, ⟨1, 10000, ByteArray.empty⟩] [.num 12100, .num 10000] rfl (by decide) w h fun k p v h1 h2 w' _ => by
    match k, h1, h2 with
    | 0, h1, h2 => simp at h1 h2; subst h1 h2; exact of_num 12100 w' _ (by omega)
    | 1, h1, h2 => simp at h1 h2; subst h1 h2; exact of_num 10000 w' _ (by omega)
theorem awake_nums : nums [.num 40000, .text ⟨#[54]⟩] [] = ([((4 : Nat) : Int) * 10000, ((6 : Nat) : Int) * 10000], 0) := by decide +kernel
theorem awake_up : awayV 12100 1 = .num 13000 := by rfl

theorem mul_awake (w : World) : Calls Tryz.prog 95 #[.int .i64 (((2 : Nat) : Int) * 10000), .int .i64 (((6 : Nat) : Int) * 10000)] w fun e w' => e = .returned (.tuple #[.int .i64 (((2 * 6 : Nat) : Int) * 10000), .bool true]) ∧ Below w.heap.size w w' :=
  (mul_lo 20000 60000 120000 w (by decide) (by decide) (by decide) (by decide) (by decide)).mono fun e w' ⟨h1, k, h2⟩ => ⟨h1, by rw [h2]; exact below_drewN (Below.refl _ _) k⟩

set_option maxHeartbeats 1600000 in
set_option maxRecDepth 100000 in
theorem awake16 (w : World) (hG : GM w) (hT : GT w) : Calls Tryz.prog 9 #[] w fun e w' => e = .returned (.bool true) ∧ Below w.heap.size w w' := by
  go_enter Tryz.func9, Tryz.ntmps9
  go_wp2_with (first | (go_at_call 14; fail))
  go_at_call 14
  refine (args_lcm _ _ _ (plains_two w ⟨1, 40000, ByteArray.empty⟩ ⟨2, 0, ⟨#[54]⟩⟩)).mono ?_
  rintro e w1 ⟨l, rs, rfl, hg, hb⟩
  obtain ⟨g, cap, rfl, _, hA⟩ := hg.at (by simp)
  have hb1 : Below w.heap.size w w1 := ((Below.refl _ _).alloc (Nat.le_refl _) _).trans (hb.mono (by simp))
  have HK := Lib.hid (call_LCM _ g cap 4 6 2 w1 (hG.below hb1) hA (by intro v hv; simp at hv; rcases hv with rfl | rfl <;> simp [V.short]; decide) rfl awake_nums (by decide) (by decide) (by decide) mul_awake)
  clear hg hA hb
  simp only [List.length_cons, List.length_nil, Nat.reduceAdd]
  go_wp2_with (first | (go_at_call 13; fail))
  go_at_call 13
  refine HK.out.mono ?_
  rintro e w2 ⟨rfl, hb2⟩
  have hb02 : Below w.heap.size w w2 := hb1.trans (hb2.mono hb1.size)
  clear hb1 hb2 HK
  go_wp2_with (first | (go_at_call 14; fail))
  go_at_call 14
  refine (args_up _ _ _ (plains_two w2 ⟨1, 12100, ByteArray.empty⟩ ⟨1, 10000, ByteArray.empty⟩)).mono ?_
  rintro e w3 ⟨l, rs3, rfl, hg, hb⟩
  obtain ⟨g3, cap3, rfl, _, hA⟩ := hg.at (by simp)
  have hb03 : Below w.heap.size w w3 := (hb02.alloc hb02.size _).trans (hb.mono (by have := hb02.size; simp; omega))
  have HK := Lib.hid (call_ROUNDUP _ g3 cap3 12100 1 (.num 13000) w3 (hG.below hb03) (hT.below hb03) hA (by intro v hv; simp at hv; rcases hv with rfl | rfl <;> simp [V.short]) rfl (by rfl) (by omega) (by omega) awake_up)
  clear hg hA hb hb02
  simp only [List.length_cons, List.length_nil, Nat.reduceAdd]
  go_wp2_with (first | (go_at_call 13; fail))
  go_at_call 13
  refine HK.out.mono ?_
  rintro e w4 ⟨rfl, hb4⟩
  have hb04 : Below w.heap.size w w4 := hb03.trans (hb4.mono hb03.size)
  clear hb03 hb4 HK
  go_wp2_with (first | (go_at_call 37; fail))
  go_at_call 37
  refine (tell_any _ _).mono ?_
  rintro e w5 ⟨rfl, hb5⟩
  have hb05 : Below w.heap.size w w5 := hb04.trans (hb5.mono hb04.size)
  clear hb04 hb5
  simp only [V.tell]
  go_wp2_with (first | (go_at_call 37; fail))
  go_at_call 37
  refine (tell_any _ _).mono ?_
  rintro e w6 ⟨rfl, hb6⟩
  have hb06 : Below w.heap.size w w6 := hb05.trans (hb6.mono hb05.size)
  clear hb05 hb6
  simp only [V.tell]
  go_wp2
  go_ret
  exact ⟨rfl, hb06⟩
end Go.Proofs.YtkobkeopajohiaaGreatDoor
