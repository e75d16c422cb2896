/-
  FUNCTIONS OF NUMBERS, called by name at any numbers: the others of one and of two numbers.
-/
import Derived.Test.YtkobkeopajohiaaGreatDoorS9
import Derived.Deep.QuietTactic
import Derived.BigQuiet
namespace Go.Proofs.YtkobkeopajohiaaGreatDoor
open Go.RowKit Go.Lib
set_option maxHeartbeats 1600000 in
set_option maxRecDepth 100000 in
theorem call_TRUNC1 (vs : List V) (g cap : Nat) (a : Int) (v : V) (w : World) (hG : GM w) (hT : GT w) (hA : ArgsAt w g vs) (hs : ∀ v ∈ vs, v.short 4294967) (hlen : vs.length = 1) (hnum : nums vs [] = ([a], 0)) (ha : -999999999999999999 ≤ a ∧ a ≤ 999999999999999999) (hv : V.num (Tab.truncS a 0) = v) :
    Calls Tryz.prog 13 #[.string ⟨#[84, 82, 85, 78, 67]⟩, .slice (some ⟨g, 0, none⟩) 1 cap] w fun e w' => e = .returned v.val ∧ Below w.heap.size w w' := by
  have HN := Lib.hid (hlen ▸ numbers_any vs g cap w hG hA hs (by omega) _ hnum)
  have HL : Hid (∀ w, Calls Tryz.prog 38 #[.string ⟨#[84, 82, 85, 78, 67]⟩] w fun e w' => e = .returned (.tuple #[.int .i64 1, .int .i64 2]) ∧ w = w') := Lib.hid fun w => limits_is ⟨#[84, 82, 85, 78, 67]⟩ 1 2 w (by decide +kernel)
  have hT0 := Lib.hid hT
  have HX := Lib.hid fun w hT => trunc_any a 0 w hT ha
  subst hv
  simp only [V.val]
  generalize Tab.truncS a 0 = t at *
  clear hA hs hnum hlen hG hT
  go_enter Tryz.func13, Tryz.ntmps13
  go_wp2_with (first
    | (go_at_call 38; refine (HL.out _).mono ?_; rintro e w' ⟨rfl, rfl⟩)
    | (go_at_call 40; fail))
  go_at_call 40
  refine HN.out.mono ?_
  rintro e w1 ⟨l, rfl, ho, hbw⟩
  have ho := ho (by trivial)
  obtain ⟨g1, cap1, rfl, _, _⟩ := ho.form (by simp)
  have hc0 : w1.cell? ⟨g1, 0, none⟩ = some (.int .i64 a) := ho.cellAt 0 (by simp)
  have hT1 := hT0.out.below hbw
  have hg1 : g1 < w1.heap.size := lt_of_cell hc0
  clear ho HN
  simp only [List.length_cons, List.length_nil, Nat.reduceAdd]
  go_wp2_with (first
    | (go_at_call 46; refine (places_one _ _ _).mono ?_; rintro e w' ⟨rfl, rfl⟩)
    | (go_at_call 45; refine (HX.out _ hT1).mono ?_; rintro e w' ⟨rfl, rfl⟩))
  all_goals go_ret
  all_goals exact ⟨rfl, by first | exact hbw | exact below_drewN hbw _ | exact hbw.trans (‹Below _ _ _›.mono hbw.size)⟩
set_option maxHeartbeats 1600000 in
set_option maxRecDepth 100000 in
theorem call_TRUNC2 (vs : List V) (g cap : Nat) (a b : Int) (v : V) (w : World) (hG : GM w) (hT : GT w) (hA : ArgsAt w g vs) (hs : ∀ v ∈ vs, v.short 4294967) (hlen : vs.length = 2) (hnum : nums vs [] = ([a, b], 0)) (ha : -999999999999999999 ≤ a ∧ a ≤ 999999999999999999) (hb : -999999999999999999 ≤ b ∧ b ≤ 999999999999999999) (hv : V.num (Tab.truncS a (plc b)) = v) :
    Calls Tryz.prog 13 #[.string ⟨#[84, 82, 85, 78, 67]⟩, .slice (some ⟨g, 0, none⟩) 2 cap] w fun e w' => e = .returned v.val ∧ Below w.heap.size w w' := by
  have HN := Lib.hid (hlen ▸ numbers_any vs g cap w hG hA hs (by omega) _ hnum)
  have HL : Hid (∀ w, Calls Tryz.prog 38 #[.string ⟨#[84, 82, 85, 78, 67]⟩] w fun e w' => e = .returned (.tuple #[.int .i64 1, .int .i64 2]) ∧ w = w') := Lib.hid fun w => limits_is ⟨#[84, 82, 85, 78, 67]⟩ 1 2 w (by decide +kernel)
  have hT0 := Lib.hid hT
  have HX := Lib.hid fun w hT => trunc_any a (plc b) w hT ha
  have HPl := Lib.hid fun g1 cap1 w1 hc1 => places_is g1 cap1 b (plc b) w1 hc1 hb rfl
  subst hv
  simp only [V.val]
  generalize Tab.truncS a (plc b) = t at *
  generalize plc b = p at *
  clear hA hs hnum hlen hG hT
  go_enter Tryz.func13, Tryz.ntmps13
  go_wp2_with (first
    | (go_at_call 38; refine (HL.out _).mono ?_; rintro e w' ⟨rfl, rfl⟩)
    | (go_at_call 40; fail))
  go_at_call 40
  refine HN.out.mono ?_
  rintro e w1 ⟨l, rfl, ho, hbw⟩
  have ho := ho (by trivial)
  obtain ⟨g1, cap1, rfl, _, _⟩ := ho.form (by simp)
  have hc0 : w1.cell? ⟨g1, 0, none⟩ = some (.int .i64 a) := ho.cellAt 0 (by simp)
  have hc1 : w1.cell? ⟨g1, 1, none⟩ = some (.int .i64 b) := ho.cellAt 1 (by simp)
  have hT1 := hT0.out.below hbw
  have hg1 : g1 < w1.heap.size := lt_of_cell hc0
  clear ho HN
  simp only [List.length_cons, List.length_nil, Nat.reduceAdd]
  go_wp2_with (first
    | (go_at_call 46; refine (HPl.out _ _ _ hc1).mono ?_; rintro e w' ⟨rfl, rfl⟩)
    | (go_at_call 45; refine (HX.out _ hT1).mono ?_; rintro e w' ⟨rfl, rfl⟩))
  all_goals go_ret
  all_goals exact ⟨rfl, by first | exact hbw | exact below_drewN hbw _ | exact hbw.trans (‹Below _ _ _›.mono hbw.size)⟩
set_option maxHeartbeats 1600000 in
set_option maxRecDepth 100000 in
theorem call_ROUNDDOWN1 (vs : List V) (g cap : Nat) (a : Int) (v : V) (w : World) (hG : GM w) (hT : GT w) (hA : ArgsAt w g vs) (hs : ∀ v ∈ vs, v.short 4294967) (hlen : vs.length = 1) (hnum : nums vs [] = ([a], 0)) (ha : -999999999999999999 ≤ a ∧ a ≤ 999999999999999999) (hv : V.num (Tab.truncS a 0) = v) :
    Calls Tryz.prog 13 #[.string ⟨#[82, 79, 85, 78, 68, 68, 79, 87, 78]⟩, .slice (some ⟨g, 0, none⟩) 1 cap] w fun e w' => e = .returned v.val ∧ Below w.heap.size w w' := by
  have HN := Lib.hid (hlen ▸ numbers_any vs g cap w hG hA hs (by omega) _ hnum)
  have HL : Hid (∀ w, Calls Tryz.prog 38 #[.string ⟨#[82, 79, 85, 78, 68, 68, 79, 87, 78]⟩] w fun e w' => e = .returned (.tuple #[.int .i64 1, .int .i64 2]) ∧ w = w') := Lib.hid fun w => limits_is ⟨#[82, 79, 85, 78, 68, 68, 79, 87, 78]⟩ 1 2 w (by decide +kernel)
  have hT0 := Lib.hid hT
  have HX := Lib.hid fun w hT => trunc_any a 0 w hT ha
  subst hv
  simp only [V.val]
  generalize Tab.truncS a 0 = t at *
  clear hA hs hnum hlen hG hT
  go_enter Tryz.func13, Tryz.ntmps13
  go_wp2_with (first
    | (go_at_call 38; refine (HL.out _).mono ?_; rintro e w' ⟨rfl, rfl⟩)
    | (go_at_call 40; fail))
  go_at_call 40
  refine HN.out.mono ?_
  rintro e w1 ⟨l, rfl, ho, hbw⟩
  have ho := ho (by trivial)
  obtain ⟨g1, cap1, rfl, _, _⟩ := ho.form (by simp)
  have hc0 : w1.cell? ⟨g1, 0, none⟩ = some (.int .i64 a) := ho.cellAt 0 (by simp)
  have hT1 := hT0.out.below hbw
  have hg1 : g1 < w1.heap.size := lt_of_cell hc0
  clear ho HN
  simp only [List.length_cons, List.length_nil, Nat.reduceAdd]
  go_wp2_with (first
    | (go_at_call 46; refine (places_one _ _ _).mono ?_; rintro e w' ⟨rfl, rfl⟩)
    | (go_at_call 45; refine (HX.out _ hT1).mono ?_; rintro e w' ⟨rfl, rfl⟩))
  all_goals go_ret
  all_goals exact ⟨rfl, by first | exact hbw | exact below_drewN hbw _ | exact hbw.trans (‹Below _ _ _›.mono hbw.size)⟩
set_option maxHeartbeats 1600000 in
set_option maxRecDepth 100000 in
theorem call_ROUNDDOWN2 (vs : List V) (g cap : Nat) (a b : Int) (v : V) (w : World) (hG : GM w) (hT : GT w) (hA : ArgsAt w g vs) (hs : ∀ v ∈ vs, v.short 4294967) (hlen : vs.length = 2) (hnum : nums vs [] = ([a, b], 0)) (ha : -999999999999999999 ≤ a ∧ a ≤ 999999999999999999) (hb : -999999999999999999 ≤ b ∧ b ≤ 999999999999999999) (hv : V.num (Tab.truncS a (plc b)) = v) :
    Calls Tryz.prog 13 #[.string ⟨#[82, 79, 85, 78, 68, 68, 79, 87, 78]⟩, .slice (some ⟨g, 0, none⟩) 2 cap] w fun e w' => e = .returned v.val ∧ Below w.heap.size w w' := by
  have HN := Lib.hid (hlen ▸ numbers_any vs g cap w hG hA hs (by omega) _ hnum)
  have HL : Hid (∀ w, Calls Tryz.prog 38 #[.string ⟨#[82, 79, 85, 78, 68, 68, 79, 87, 78]⟩] w fun e w' => e = .returned (.tuple #[.int .i64 1, .int .i64 2]) ∧ w = w') := Lib.hid fun w => limits_is ⟨#[82, 79, 85, 78, 68, 68, 79, 87, 78]⟩ 1 2 w (by decide +kernel)
  have hT0 := Lib.hid hT
  have HX := Lib.hid fun w hT => trunc_any a (plc b) w hT ha
  have HPl := Lib.hid fun g1 cap1 w1 hc1 => places_is g1 cap1 b (plc b) w1 hc1 hb rfl
  subst hv
  simp only [V.val]
  generalize Tab.truncS a (plc b) = t at *
  generalize plc b = p at *
  clear hA hs hnum hlen hG hT
  go_enter Tryz.func13, Tryz.ntmps13
  go_wp2_with (first
    | (go_at_call 38; refine (HL.out _).mono ?_; rintro e w' ⟨rfl, rfl⟩)
    | (go_at_call 40; fail))
  go_at_call 40
  refine HN.out.mono ?_
  rintro e w1 ⟨l, rfl, ho, hbw⟩
  have ho := ho (by trivial)
  obtain ⟨g1, cap1, rfl, _, _⟩ := ho.form (by simp)
  have hc0 : w1.cell? ⟨g1, 0, none⟩ = some (.int .i64 a) := ho.cellAt 0 (by simp)
  have hc1 : w1.cell? ⟨g1, 1, none⟩ = some (.int .i64 b) := ho.cellAt 1 (by simp)
  have hT1 := hT0.out.below hbw
  have hg1 : g1 < w1.heap.size := lt_of_cell hc0
  clear ho HN
  simp only [List.length_cons, List.length_nil, Nat.reduceAdd]
  go_wp2_with (first
    | (go_at_call 46; refine (HPl.out _ _ _ hc1).mono ?_; rintro e w' ⟨rfl, rfl⟩)
    | (go_at_call 45; refine (HX.out _ hT1).mono ?_; rintro e w' ⟨rfl, rfl⟩))
  all_goals go_ret
  all_goals exact ⟨rfl, by first | exact hbw | exact below_drewN hbw _ | exact hbw.trans (‹Below _ _ _›.mono hbw.size)⟩
set_option maxHeartbeats 1600000 in
set_option maxRecDepth 100000 in
theorem call_ROUND1 (vs : List V) (g cap : Nat) (a : Int) (v : V) (w : World) (hG : GM w) (hT : GT w) (hA : ArgsAt w g vs) (hs : ∀ v ∈ vs, v.short 4294967) (hlen : vs.length = 1) (hnum : nums vs [] = ([a], 0)) (ha : -999999999999999999 ≤ a ∧ a ≤ 999999999999999999) (hv : cnt (Tab.roundS a 0) = v) :
    Calls Tryz.prog 13 #[.string ⟨#[82, 79, 85, 78, 68]⟩, .slice (some ⟨g, 0, none⟩) 1 cap] w fun e w' => e = .returned v.val ∧ Below w.heap.size w w' := by
  have HN := Lib.hid (hlen ▸ numbers_any vs g cap w hG hA hs (by omega) _ hnum)
  have HL : Hid (∀ w, Calls Tryz.prog 38 #[.string ⟨#[82, 79, 85, 78, 68]⟩] w fun e w' => e = .returned (.tuple #[.int .i64 1, .int .i64 2]) ∧ w = w') := Lib.hid fun w => limits_is ⟨#[82, 79, 85, 78, 68]⟩ 1 2 w (by decide +kernel)
  have hT0 := Lib.hid hT
  obtain ⟨m, ok, hm⟩ : ∃ m ok, Tab.roundS a 0 = (m, ok) := ⟨_, _, rfl⟩
  rw [hm] at hv
  have HX := Lib.hid fun w hT => round_is a 0 m ok w hT ha hm
  have HC := Lib.hid fun w => counted_v m ok v w hv
  clear hm hv
  rw [V.val_eq] at HC ⊢
  generalize v.ty = tv at *
  generalize v.raw = xv at *
  clear hA hs hnum hlen hG hT
  go_enter Tryz.func13, Tryz.ntmps13
  go_wp2_with (first
    | (go_at_call 38; refine (HL.out _).mono ?_; rintro e w' ⟨rfl, rfl⟩)
    | (go_at_call 40; fail))
  go_at_call 40
  refine HN.out.mono ?_
  rintro e w1 ⟨l, rfl, ho, hbw⟩
  have ho := ho (by trivial)
  obtain ⟨g1, cap1, rfl, _, _⟩ := ho.form (by simp)
  have hc0 : w1.cell? ⟨g1, 0, none⟩ = some (.int .i64 a) := ho.cellAt 0 (by simp)
  have hT1 := hT0.out.below hbw
  have hg1 : g1 < w1.heap.size := lt_of_cell hc0
  clear ho HN
  simp only [List.length_cons, List.length_nil, Nat.reduceAdd]
  go_wp2_with (first
    | (go_at_call 46; refine (places_one _ _ _).mono ?_; rintro e w' ⟨rfl, rfl⟩)
    | (go_at_call 47; refine (HX.out _ hT1).mono ?_; rintro e w' ⟨rfl, rfl⟩)
    | (go_at_call 43; refine (HC.out _).mono ?_; rintro e w' ⟨rfl, rfl⟩))
  all_goals go_ret
  all_goals exact ⟨rfl, by first | exact hbw | exact below_drewN hbw _ | exact hbw.trans (‹Below _ _ _›.mono hbw.size)⟩
set_option maxHeartbeats 1600000 in
set_option maxRecDepth 100000 in
theorem call_ROUND2 (vs : List V) (g cap : Nat) (a b : Int) (v : V) (w : World) (hG : GM w) (hT : GT w) (hA : ArgsAt w g vs) (hs : ∀ v ∈ vs, v.short 4294967) (hlen : vs.length = 2) (hnum : nums vs [] = ([a, b], 0)) (ha : -999999999999999999 ≤ a ∧ a ≤ 999999999999999999) (hb : -999999999999999999 ≤ b ∧ b ≤ 999999999999999999) (hv : cnt (Tab.roundS a (plc b)) = v) :
    Calls Tryz.prog 13 #[.string ⟨#[82, 79, 85, 78, 68]⟩, .slice (some ⟨g, 0, none⟩) 2 cap] w fun e w' => e = .returned v.val ∧ Below w.heap.size w w' := by
  have HN := Lib.hid (hlen ▸ numbers_any vs g cap w hG hA hs (by omega) _ hnum)
  have HL : Hid (∀ w, Calls Tryz.prog 38 #[.string ⟨#[82, 79, 85, 78, 68]⟩] w fun e w' => e = .returned (.tuple #[.int .i64 1, .int .i64 2]) ∧ w = w') := Lib.hid fun w => limits_is ⟨#[82, 79, 85, 78, 68]⟩ 1 2 w (by decide +kernel)
  have hT0 := Lib.hid hT
  obtain ⟨m, ok, hm⟩ : ∃ m ok, Tab.roundS a (plc b) = (m, ok) := ⟨_, _, rfl⟩
  rw [hm] at hv
  have HX := Lib.hid fun w hT => round_is a (plc b) m ok w hT ha hm
  have HC := Lib.hid fun w => counted_v m ok v w hv
  have HPl := Lib.hid fun g1 cap1 w1 hc1 => places_is g1 cap1 b (plc b) w1 hc1 hb rfl
  clear hm hv
  generalize plc b = p at *
  rw [V.val_eq] at HC ⊢
  generalize v.ty = tv at *
  generalize v.raw = xv at *
  clear hA hs hnum hlen hG hT
  go_enter Tryz.func13, Tryz.ntmps13
  go_wp2_with (first
    | (go_at_call 38; refine (HL.out _).mono ?_; rintro e w' ⟨rfl, rfl⟩)
    | (go_at_call 40; fail))
  go_at_call 40
  refine HN.out.mono ?_
  rintro e w1 ⟨l, rfl, ho, hbw⟩
  have ho := ho (by trivial)
  obtain ⟨g1, cap1, rfl, _, _⟩ := ho.form (by simp)
  have hc0 : w1.cell? ⟨g1, 0, none⟩ = some (.int .i64 a) := ho.cellAt 0 (by simp)
  have hc1 : w1.cell? ⟨g1, 1, none⟩ = some (.int .i64 b) := ho.cellAt 1 (by simp)
  have hT1 := hT0.out.below hbw
  have hg1 : g1 < w1.heap.size := lt_of_cell hc0
  clear ho HN
  simp only [List.length_cons, List.length_nil, Nat.reduceAdd]
  go_wp2_with (first
    | (go_at_call 46; refine (HPl.out _ _ _ hc1).mono ?_; rintro e w' ⟨rfl, rfl⟩)
    | (go_at_call 47; refine (HX.out _ hT1).mono ?_; rintro e w' ⟨rfl, rfl⟩)
    | (go_at_call 43; refine (HC.out _).mono ?_; rintro e w' ⟨rfl, rfl⟩))
  all_goals go_ret
  all_goals exact ⟨rfl, by first | exact hbw | exact below_drewN hbw _ | exact hbw.trans (‹Below _ _ _›.mono hbw.size)⟩
set_option maxHeartbeats 1600000 in
set_option maxRecDepth 100000 in
theorem call_ROUNDUP1 (vs : List V) (g cap : Nat) (a : Int) (v : V) (w : World) (hG : GM w) (hT : GT w) (hA : ArgsAt w g vs) (hs : ∀ v ∈ vs, v.short 4294967) (hlen : vs.length = 1) (hnum : nums vs [] = ([a], 0)) (ha : -999999999999999999 ≤ a ∧ a ≤ 999999999999999999) (hv : awayW a 0 = v) :
    Calls Tryz.prog 13 #[.string ⟨#[82, 79, 85, 78, 68, 85, 80]⟩, .slice (some ⟨g, 0, none⟩) 1 cap] w fun e w' => e = .returned v.val ∧ Below w.heap.size w w' := by
  have HN := Lib.hid (hlen ▸ numbers_any vs g cap w hG hA hs (by omega) _ hnum)
  have HL : Hid (∀ w, Calls Tryz.prog 38 #[.string ⟨#[82, 79, 85, 78, 68, 85, 80]⟩] w fun e w' => e = .returned (.tuple #[.int .i64 1, .int .i64 2]) ∧ w = w') := Lib.hid fun w => limits_is ⟨#[82, 79, 85, 78, 68, 85, 80]⟩ 1 2 w (by decide +kernel)
  have hT0 := Lib.hid hT
  have HX := Lib.hid fun w hT => away_any a 0 v w hT ha (by omega) hv
  clear hv
  rw [V.val_eq] at HX ⊢
  generalize v.ty = tv at *
  generalize v.raw = xv at *
  clear hA hs hnum hlen hG hT
  go_enter Tryz.func13, Tryz.ntmps13
  go_wp2_with (first
    | (go_at_call 38; refine (HL.out _).mono ?_; rintro e w' ⟨rfl, rfl⟩)
    | (go_at_call 40; fail))
  go_at_call 40
  refine HN.out.mono ?_
  rintro e w1 ⟨l, rfl, ho, hbw⟩
  have ho := ho (by trivial)
  obtain ⟨g1, cap1, rfl, _, _⟩ := ho.form (by simp)
  have hc0 : w1.cell? ⟨g1, 0, none⟩ = some (.int .i64 a) := ho.cellAt 0 (by simp)
  have hT1 := hT0.out.below hbw
  have hg1 : g1 < w1.heap.size := lt_of_cell hc0
  clear ho HN
  simp only [List.length_cons, List.length_nil, Nat.reduceAdd]
  go_wp2_with (first
    | (go_at_call 46; refine (places_one _ _ _).mono ?_; rintro e w' ⟨rfl, rfl⟩)
    | (go_at_call 48; refine (HX.out _ hT1).mono ?_; rintro e w' ⟨rfl, d, rfl⟩))
  all_goals go_ret
  all_goals exact ⟨rfl, by first | exact hbw | exact below_drewN hbw _ | exact hbw.trans (‹Below _ _ _›.mono hbw.size)⟩
set_option maxHeartbeats 1600000 in
set_option maxRecDepth 100000 in
theorem call_ROUNDUP2 (vs : List V) (g cap : Nat) (a b : Int) (v : V) (w : World) (hG : GM w) (hT : GT w) (hA : ArgsAt w g vs) (hs : ∀ v ∈ vs, v.short 4294967) (hlen : vs.length = 2) (hnum : nums vs [] = ([a, b], 0)) (ha : -999999999999999999 ≤ a ∧ a ≤ 999999999999999999) (hb : -999999999999999999 ≤ b ∧ b ≤ 999999999999999999) (hv : awayW a (plc b) = v) :
    Calls Tryz.prog 13 #[.string ⟨#[82, 79, 85, 78, 68, 85, 80]⟩, .slice (some ⟨g, 0, none⟩) 2 cap] w fun e w' => e = .returned v.val ∧ Below w.heap.size w w' := by
  have HN := Lib.hid (hlen ▸ numbers_any vs g cap w hG hA hs (by omega) _ hnum)
  have HL : Hid (∀ w, Calls Tryz.prog 38 #[.string ⟨#[82, 79, 85, 78, 68, 85, 80]⟩] w fun e w' => e = .returned (.tuple #[.int .i64 1, .int .i64 2]) ∧ w = w') := Lib.hid fun w => limits_is ⟨#[82, 79, 85, 78, 68, 85, 80]⟩ 1 2 w (by decide +kernel)
  have hT0 := Lib.hid hT
  have HX := Lib.hid fun w hT => away_any a (plc b) v w hT ha (plc_bd b) hv
  have HPl := Lib.hid fun g1 cap1 w1 hc1 => places_is g1 cap1 b (plc b) w1 hc1 hb rfl
  clear hv
  generalize plc b = p at *
  rw [V.val_eq] at HX ⊢
  generalize v.ty = tv at *
  generalize v.raw = xv at *
  clear hA hs hnum hlen hG hT
  go_enter Tryz.func13, Tryz.ntmps13
  go_wp2_with (first
    | (go_at_call 38; refine (HL.out _).mono ?_; rintro e w' ⟨rfl, rfl⟩)
    | (go_at_call 40; fail))
  go_at_call 40
  refine HN.out.mono ?_
  rintro e w1 ⟨l, rfl, ho, hbw⟩
  have ho := ho (by trivial)
  obtain ⟨g1, cap1, rfl, _, _⟩ := ho.form (by simp)
  have hc0 : w1.cell? ⟨g1, 0, none⟩ = some (.int .i64 a) := ho.cellAt 0 (by simp)
  have hc1 : w1.cell? ⟨g1, 1, none⟩ = some (.int .i64 b) := ho.cellAt 1 (by simp)
  have hT1 := hT0.out.below hbw
  have hg1 : g1 < w1.heap.size := lt_of_cell hc0
  clear ho HN
  simp only [List.length_cons, List.length_nil, Nat.reduceAdd]
  go_wp2_with (first
    | (go_at_call 46; refine (HPl.out _ _ _ hc1).mono ?_; rintro e w' ⟨rfl, rfl⟩)
    | (go_at_call 48; refine (HX.out _ hT1).mono ?_; rintro e w' ⟨rfl, d, rfl⟩))
  all_goals go_ret
  all_goals exact ⟨rfl, by first | exact hbw | exact below_drewN hbw _ | exact hbw.trans (‹Below _ _ _›.mono hbw.size)⟩
set_option maxHeartbeats 1600000 in
set_option maxRecDepth 100000 in
theorem call_FLOOR1 (vs : List V) (g cap : Nat) (a : Int) (v : V) (w : World) (hG : GM w) (hT : GT w) (hA : ArgsAt w g vs) (hs : ∀ v ∈ vs, v.short 4294967) (hlen : vs.length = 1) (hnum : nums vs [] = ([a], 0)) (ha : -999999999999999999 ≤ a ∧ a ≤ 999999999999999999) (hv : steppedV a 10000 false = v) :
    Calls Tryz.prog 13 #[.string ⟨#[70, 76, 79, 79, 82]⟩, .slice (some ⟨g, 0, none⟩) 1 cap] w fun e w' => e = .returned v.val ∧ Below w.heap.size w w' := by
  have HN := Lib.hid (hlen ▸ numbers_any vs g cap w hG hA hs (by omega) _ hnum)
  have HL : Hid (∀ w, Calls Tryz.prog 38 #[.string ⟨#[70, 76, 79, 79, 82]⟩] w fun e w' => e = .returned (.tuple #[.int .i64 1, .int .i64 2]) ∧ w = w') := Lib.hid fun w => limits_is ⟨#[70, 76, 79, 79, 82]⟩ 1 2 w (by decide +kernel)
  have hT0 := Lib.hid hT
  have HC : Hid (∀ w, Calls Tryz.prog 49 #[.int .i64 a, .int .i64 10000, .bool false] w fun e w' => e = .returned v.val ∧ w = w') := Lib.hid fun w => stepped_any a 10000 false v w ha (by omega) hv
  clear hv
  rw [V.val_eq] at HC ⊢
  generalize v.ty = tv at *
  generalize v.raw = xv at *
  clear hA hs hnum hlen hG hT
  go_enter Tryz.func13, Tryz.ntmps13
  go_wp2_with (first
    | (go_at_call 38; refine (HL.out _).mono ?_; rintro e w' ⟨rfl, rfl⟩)
    | (go_at_call 40; fail))
  go_at_call 40
  refine HN.out.mono ?_
  rintro e w1 ⟨l, rfl, ho, hbw⟩
  have ho := ho (by trivial)
  obtain ⟨g1, cap1, rfl, _, _⟩ := ho.form (by simp)
  have hc0 : w1.cell? ⟨g1, 0, none⟩ = some (.int .i64 a) := ho.cellAt 0 (by simp)
  have hT1 := hT0.out.below hbw
  have hg1 : g1 < w1.heap.size := lt_of_cell hc0
  clear ho HN
  simp only [List.length_cons, List.length_nil, Nat.reduceAdd]
  go_wp2_with (first
    | (go_at_call 50; refine (second_one _ _ _ _).mono ?_; rintro e w' ⟨rfl, rfl⟩)
    | (go_at_call 49; refine (HC.out _).mono ?_; rintro e w' ⟨rfl, rfl⟩))
  all_goals go_ret
  all_goals exact ⟨rfl, by first | exact hbw | exact below_drewN hbw _ | exact hbw.trans (‹Below _ _ _›.mono hbw.size)⟩
set_option maxHeartbeats 1600000 in
set_option maxRecDepth 100000 in
theorem call_FLOOR2 (vs : List V) (g cap : Nat) (a b : Int) (v : V) (w : World) (hG : GM w) (hT : GT w) (hA : ArgsAt w g vs) (hs : ∀ v ∈ vs, v.short 4294967) (hlen : vs.length = 2) (hnum : nums vs [] = ([a, b], 0)) (ha : -999999999999999999 ≤ a ∧ a ≤ 999999999999999999) (hb : -999999999999999999 ≤ b ∧ b ≤ 999999999999999999) (hv : steppedV a b false = v) :
    Calls Tryz.prog 13 #[.string ⟨#[70, 76, 79, 79, 82]⟩, .slice (some ⟨g, 0, none⟩) 2 cap] w fun e w' => e = .returned v.val ∧ Below w.heap.size w w' := by
  have HN := Lib.hid (hlen ▸ numbers_any vs g cap w hG hA hs (by omega) _ hnum)
  have HL : Hid (∀ w, Calls Tryz.prog 38 #[.string ⟨#[70, 76, 79, 79, 82]⟩] w fun e w' => e = .returned (.tuple #[.int .i64 1, .int .i64 2]) ∧ w = w') := Lib.hid fun w => limits_is ⟨#[70, 76, 79, 79, 82]⟩ 1 2 w (by decide +kernel)
  have hT0 := Lib.hid hT
  have HC := Lib.hid fun w => stepped_any a b false v w ha hb hv
  clear hv
  rw [V.val_eq] at HC ⊢
  generalize v.ty = tv at *
  generalize v.raw = xv at *
  clear hA hs hnum hlen hG hT
  go_enter Tryz.func13, Tryz.ntmps13
  go_wp2_with (first
    | (go_at_call 38; refine (HL.out _).mono ?_; rintro e w' ⟨rfl, rfl⟩)
    | (go_at_call 40; fail))
  go_at_call 40
  refine HN.out.mono ?_
  rintro e w1 ⟨l, rfl, ho, hbw⟩
  have ho := ho (by trivial)
  obtain ⟨g1, cap1, rfl, _, _⟩ := ho.form (by simp)
  have hc0 : w1.cell? ⟨g1, 0, none⟩ = some (.int .i64 a) := ho.cellAt 0 (by simp)
  have hc1 : w1.cell? ⟨g1, 1, none⟩ = some (.int .i64 b) := ho.cellAt 1 (by simp)
  have hT1 := hT0.out.below hbw
  have hg1 : g1 < w1.heap.size := lt_of_cell hc0
  clear ho HN
  simp only [List.length_cons, List.length_nil, Nat.reduceAdd]
  go_wp2_with (first
    | (go_at_call 50; refine (second_two _ _ _ _ _ hc1).mono ?_; rintro e w' ⟨rfl, rfl⟩)
    | (go_at_call 49; refine (HC.out _).mono ?_; rintro e w' ⟨rfl, rfl⟩))
  all_goals go_ret
  all_goals exact ⟨rfl, by first | exact hbw | exact below_drewN hbw _ | exact hbw.trans (‹Below _ _ _›.mono hbw.size)⟩
set_option maxHeartbeats 1600000 in
set_option maxRecDepth 100000 in
theorem call_CEILING1 (vs : List V) (g cap : Nat) (a : Int) (v : V) (w : World) (hG : GM w) (hT : GT w) (hA : ArgsAt w g vs) (hs : ∀ v ∈ vs, v.short 4294967) (hlen : vs.length = 1) (hnum : nums vs [] = ([a], 0)) (ha : -999999999999999999 ≤ a ∧ a ≤ 999999999999999999) (hv : steppedV a 10000 true = v) :
    Calls Tryz.prog 13 #[.string ⟨#[67, 69, 73, 76, 73, 78, 71]⟩, .slice (some ⟨g, 0, none⟩) 1 cap] w fun e w' => e = .returned v.val ∧ Below w.heap.size w w' := by
  have HN := Lib.hid (hlen ▸ numbers_any vs g cap w hG hA hs (by omega) _ hnum)
  have HL : Hid (∀ w, Calls Tryz.prog 38 #[.string ⟨#[67, 69, 73, 76, 73, 78, 71]⟩] w fun e w' => e = .returned (.tuple #[.int .i64 1, .int .i64 2]) ∧ w = w') := Lib.hid fun w => limits_is ⟨#[67, 69, 73, 76, 73, 78, 71]⟩ 1 2 w (by decide +kernel)
  have hT0 := Lib.hid hT
  have HC : Hid (∀ w, Calls Tryz.prog 49 #[.int .i64 a, .int .i64 10000, .bool true] w fun e w' => e = .returned v.val ∧ w = w') := Lib.hid fun w => stepped_any a 10000 true v w ha (by omega) hv
  clear hv
  rw [V.val_eq] at HC ⊢
  generalize v.ty = tv at *
  generalize v.raw = xv at *
  clear hA hs hnum hlen hG hT
  go_enter Tryz.func13, Tryz.ntmps13
  go_wp2_with (first
    | (go_at_call 38; refine (HL.out _).mono ?_; rintro e w' ⟨rfl, rfl⟩)
    | (go_at_call 40; fail))
  go_at_call 40
  refine HN.out.mono ?_
  rintro e w1 ⟨l, rfl, ho, hbw⟩
  have ho := ho (by trivial)
  obtain ⟨g1, cap1, rfl, _, _⟩ := ho.form (by simp)
  have hc0 : w1.cell? ⟨g1, 0, none⟩ = some (.int .i64 a) := ho.cellAt 0 (by simp)
  have hT1 := hT0.out.below hbw
  have hg1 : g1 < w1.heap.size := lt_of_cell hc0
  clear ho HN
  simp only [List.length_cons, List.length_nil, Nat.reduceAdd]
  go_wp2_with (first
    | (go_at_call 50; refine (second_one _ _ _ _).mono ?_; rintro e w' ⟨rfl, rfl⟩)
    | (go_at_call 49; refine (HC.out _).mono ?_; rintro e w' ⟨rfl, rfl⟩))
  all_goals go_ret
  all_goals exact ⟨rfl, by first | exact hbw | exact below_drewN hbw _ | exact hbw.trans (‹Below _ _ _›.mono hbw.size)⟩
set_option maxHeartbeats 1600000 in
set_option maxRecDepth 100000 in
theorem call_CEILING2 (vs : List V) (g cap : Nat) (a b : Int) (v : V) (w : World) (hG : GM w) (hT : GT w) (hA : ArgsAt w g vs) (hs : ∀ v ∈ vs, v.short 4294967) (hlen : vs.length = 2) (hnum : nums vs [] = ([a, b], 0)) (ha : -999999999999999999 ≤ a ∧ a ≤ 999999999999999999) (hb : -999999999999999999 ≤ b ∧ b ≤ 999999999999999999) (hv : steppedV a b true = v) :
    Calls Tryz.prog 13 #[.string ⟨#[67, 69, 73, 76, 73, 78, 71]⟩, .slice (some ⟨g, 0, none⟩) 2 cap] w fun e w' => e = .returned v.val ∧ Below w.heap.size w w' := by
  have HN := Lib.hid (hlen ▸ numbers_any vs g cap w hG hA hs (by omega) _ hnum)
  have HL : Hid (∀ w, Calls Tryz.prog 38 #[.string ⟨#[67, 69, 73, 76, 73, 78, 71]⟩] w fun e w' => e = .returned (.tuple #[.int .i64 1, .int .i64 2]) ∧ w = w') := Lib.hid fun w => limits_is ⟨#[67, 69, 73, 76, 73, 78, 71]⟩ 1 2 w (by decide +kernel)
  have hT0 := Lib.hid hT
  have HC := Lib.hid fun w => stepped_any a b true v w ha hb hv
  clear hv
  rw [V.val_eq] at HC ⊢
  generalize v.ty = tv at *
  generalize v.raw = xv at *
  clear hA hs hnum hlen hG hT
  go_enter Tryz.func13, Tryz.ntmps13
  go_wp2_with (first
    | (go_at_call 38; refine (HL.out _).mono ?_; rintro e w' ⟨rfl, rfl⟩)
    | (go_at_call 40; fail))
  go_at_call 40
  refine HN.out.mono ?_
  rintro e w1 ⟨l, rfl, ho, hbw⟩
  have ho := ho (by trivial)
  obtain ⟨g1, cap1, rfl, _, _⟩ := ho.form (by simp)
  have hc0 : w1.cell? ⟨g1, 0, none⟩ = some (.int .i64 a) := ho.cellAt 0 (by simp)
  have hc1 : w1.cell? ⟨g1, 1, none⟩ = some (.int .i64 b) := ho.cellAt 1 (by simp)
  have hT1 := hT0.out.below hbw
  have hg1 : g1 < w1.heap.size := lt_of_cell hc0
  clear ho HN
  simp only [List.length_cons, List.length_nil, Nat.reduceAdd]
  go_wp2_with (first
    | (go_at_call 50; refine (second_two _ _ _ _ _ hc1).mono ?_; rintro e w' ⟨rfl, rfl⟩)
    | (go_at_call 49; refine (HC.out _).mono ?_; rintro e w' ⟨rfl, rfl⟩))
  all_goals go_ret
  all_goals exact ⟨rfl, by first | exact hbw | exact below_drewN hbw _ | exact hbw.trans (‹Below _ _ _›.mono hbw.size)⟩
set_option maxHeartbeats 1600000 in
set_option maxRecDepth 100000 in
theorem call_MROUND2 (vs : List V) (g cap : Nat) (a b : Int) (v : V) (w : World) (hG : GM w) (hT : GT w) (hA : ArgsAt w g vs) (hs : ∀ v ∈ vs, v.short 4294967) (hlen : vs.length = 2) (hnum : nums vs [] = ([a, b], 0)) (ha : -999999999999999999 ≤ a ∧ a ≤ 999999999999999999) (hb : -999999999999999999 ≤ b ∧ b ≤ 999999999999999999) (hv : nearV a b = v) :
    Calls Tryz.prog 13 #[.string ⟨#[77, 82, 79, 85, 78, 68]⟩, .slice (some ⟨g, 0, none⟩) 2 cap] w fun e w' => e = .returned v.val ∧ Below w.heap.size w w' := by
  have HN := Lib.hid (hlen ▸ numbers_any vs g cap w hG hA hs (by omega) _ hnum)
  have HL : Hid (∀ w, Calls Tryz.prog 38 #[.string ⟨#[77, 82, 79, 85, 78, 68]⟩] w fun e w' => e = .returned (.tuple #[.int .i64 2, .int .i64 2]) ∧ w = w') := Lib.hid fun w => limits_is ⟨#[77, 82, 79, 85, 78, 68]⟩ 2 2 w (by decide +kernel)
  have hT0 := Lib.hid hT
  have HC := Lib.hid fun w => nearest_any a b v w ha hb hv
  clear hv
  rw [V.val_eq] at HC ⊢
  generalize v.ty = tv at *
  generalize v.raw = xv at *
  clear hA hs hnum hlen hG hT
  go_enter Tryz.func13, Tryz.ntmps13
  go_wp2_with (first
    | (go_at_call 38; refine (HL.out _).mono ?_; rintro e w' ⟨rfl, rfl⟩)
    | (go_at_call 40; fail))
  go_at_call 40
  refine HN.out.mono ?_
  rintro e w1 ⟨l, rfl, ho, hbw⟩
  have ho := ho (by trivial)
  obtain ⟨g1, cap1, rfl, _, _⟩ := ho.form (by simp)
  have hc0 : w1.cell? ⟨g1, 0, none⟩ = some (.int .i64 a) := ho.cellAt 0 (by simp)
  have hc1 : w1.cell? ⟨g1, 1, none⟩ = some (.int .i64 b) := ho.cellAt 1 (by simp)
  have hT1 := hT0.out.below hbw
  have hg1 : g1 < w1.heap.size := lt_of_cell hc0
  clear ho HN
  simp only [List.length_cons, List.length_nil, Nat.reduceAdd]
  go_wp2_with (first
    | (go_at_call 51; refine (HC.out _).mono ?_; rintro e w' ⟨rfl, rfl⟩))
  all_goals go_ret
  all_goals exact ⟨rfl, by first | exact hbw | exact below_drewN hbw _ | exact hbw.trans (‹Below _ _ _›.mono hbw.size)⟩
set_option maxHeartbeats 1600000 in
set_option maxRecDepth 100000 in
theorem call_MOD2 (vs : List V) (g cap : Nat) (a b : Int) (v : V) (w : World) (hG : GM w) (hT : GT w) (hA : ArgsAt w g vs) (hs : ∀ v ∈ vs, v.short 4294967) (hlen : vs.length = 2) (hnum : nums vs [] = ([a, b], 0)) (_ha : -999999999999999999 ≤ a ∧ a ≤ 999999999999999999) (hb : -999999999999999999 ≤ b ∧ b ≤ 999999999999999999) (hb0 : b ≠ 0) (hv : V.num (Int.fmod a b) = v) :
    Calls Tryz.prog 13 #[.string ⟨#[77, 79, 68]⟩, .slice (some ⟨g, 0, none⟩) 2 cap] w fun e w' => e = .returned v.val ∧ Below w.heap.size w w' := by
  have HN := Lib.hid (hlen ▸ numbers_any vs g cap w hG hA hs (by omega) _ hnum)
  have HL : Hid (∀ w, Calls Tryz.prog 38 #[.string ⟨#[77, 79, 68]⟩] w fun e w' => e = .returned (.tuple #[.int .i64 2, .int .i64 2]) ∧ w = w') := Lib.hid fun w => limits_is ⟨#[77, 79, 68]⟩ 2 2 w (by decide +kernel)
  have hT0 := Lib.hid hT
  have HX := Lib.hid fun w => mod_any a b w hb hb0
  have hbz : (b == 0) = false := by rw [beq_eq_false_iff_ne]; exact hb0
  have HC := Lib.hid fun w => counted_v (Int.fmod a b) true v w hv
  clear hv
  generalize Int.fmod a b = fm at *
  rw [V.val_eq] at HC ⊢
  generalize v.ty = tv at *
  generalize v.raw = xv at *
  clear hA hs hnum hlen hG hT
  go_enter Tryz.func13, Tryz.ntmps13
  go_wp2_with (first
    | (go_at_call 38; refine (HL.out _).mono ?_; rintro e w' ⟨rfl, rfl⟩)
    | (go_at_call 40; fail))
  go_at_call 40
  refine HN.out.mono ?_
  rintro e w1 ⟨l, rfl, ho, hbw⟩
  have ho := ho (by trivial)
  obtain ⟨g1, cap1, rfl, _, _⟩ := ho.form (by simp)
  have hc0 : w1.cell? ⟨g1, 0, none⟩ = some (.int .i64 a) := ho.cellAt 0 (by simp)
  have hc1 : w1.cell? ⟨g1, 1, none⟩ = some (.int .i64 b) := ho.cellAt 1 (by simp)
  have hT1 := hT0.out.below hbw
  have hg1 : g1 < w1.heap.size := lt_of_cell hc0
  clear ho HN
  simp only [List.length_cons, List.length_nil, Nat.reduceAdd]
  go_wp2_with (first
    | (go_at_call 52; refine (HX.out _).mono ?_; rintro e w' ⟨rfl, rfl⟩)
    | (go_at_call 43; refine (HC.out _).mono ?_; rintro e w' ⟨rfl, rfl⟩))
  all_goals go_ret
  all_goals exact ⟨rfl, by first | exact hbw | exact below_drewN hbw _ | exact hbw.trans (‹Below _ _ _›.mono hbw.size)⟩
set_option maxHeartbeats 1600000 in
set_option maxRecDepth 100000 in
theorem call_MOD2z (vs : List V) (g cap : Nat) (a b : Int) (v : V) (w : World) (hG : GM w) (hT : GT w) (hA : ArgsAt w g vs) (hs : ∀ v ∈ vs, v.short 4294967) (hlen : vs.length = 2) (hnum : nums vs [] = ([a, b], 0)) (_ha : -999999999999999999 ≤ a ∧ a ≤ 999999999999999999) (_hb : -999999999999999999 ≤ b ∧ b ≤ 999999999999999999) (hb0 : b = 0) (hv : V.fail 1 = v) :
    Calls Tryz.prog 13 #[.string ⟨#[77, 79, 68]⟩, .slice (some ⟨g, 0, none⟩) 2 cap] w fun e w' => e = .returned v.val ∧ Below w.heap.size w w' := by
  have HN := Lib.hid (hlen ▸ numbers_any vs g cap w hG hA hs (by omega) _ hnum)
  have HL : Hid (∀ w, Calls Tryz.prog 38 #[.string ⟨#[77, 79, 68]⟩] w fun e w' => e = .returned (.tuple #[.int .i64 2, .int .i64 2]) ∧ w = w') := Lib.hid fun w => limits_is ⟨#[77, 79, 68]⟩ 2 2 w (by decide +kernel)
  have hT0 := Lib.hid hT
  subst hv
  have hbz : (b == 0) = true := by simp [hb0]
  clear hb0
  simp only [V.val]
  clear hA hs hnum hlen hG hT
  go_enter Tryz.func13, Tryz.ntmps13
  go_wp2_with (first
    | (go_at_call 38; refine (HL.out _).mono ?_; rintro e w' ⟨rfl, rfl⟩)
    | (go_at_call 40; fail))
  go_at_call 40
  refine HN.out.mono ?_
  rintro e w1 ⟨l, rfl, ho, hbw⟩
  have ho := ho (by trivial)
  obtain ⟨g1, cap1, rfl, _, _⟩ := ho.form (by simp)
  have hc0 : w1.cell? ⟨g1, 0, none⟩ = some (.int .i64 a) := ho.cellAt 0 (by simp)
  have hc1 : w1.cell? ⟨g1, 1, none⟩ = some (.int .i64 b) := ho.cellAt 1 (by simp)
  have hT1 := hT0.out.below hbw
  have hg1 : g1 < w1.heap.size := lt_of_cell hc0
  clear ho HN
  simp only [List.length_cons, List.length_nil, Nat.reduceAdd]
  go_wp2
  all_goals go_ret
  all_goals exact ⟨rfl, by first | exact hbw | exact below_drewN hbw _ | exact hbw.trans (‹Below _ _ _›.mono hbw.size)⟩
set_option maxHeartbeats 1600000 in
set_option maxRecDepth 100000 in
theorem call_QUOTIENT2 (vs : List V) (g cap : Nat) (a b : Int) (v : V) (w : World) (hG : GM w) (hT : GT w) (hA : ArgsAt w g vs) (hs : ∀ v ∈ vs, v.short 4294967) (hlen : vs.length = 2) (hnum : nums vs [] = ([a, b], 0)) (ha : -999999999999999999 ≤ a ∧ a ≤ 999999999999999999) (hb : -999999999999999999 ≤ b ∧ b ≤ 999999999999999999) (hv : quotV a b = v) :
    Calls Tryz.prog 13 #[.string ⟨#[81, 85, 79, 84, 73, 69, 78, 84]⟩, .slice (some ⟨g, 0, none⟩) 2 cap] w fun e w' => e = .returned v.val ∧ Below w.heap.size w w' := by
  have HN := Lib.hid (hlen ▸ numbers_any vs g cap w hG hA hs (by omega) _ hnum)
  have HL : Hid (∀ w, Calls Tryz.prog 38 #[.string ⟨#[81, 85, 79, 84, 73, 69, 78, 84]⟩] w fun e w' => e = .returned (.tuple #[.int .i64 2, .int .i64 2]) ∧ w = w') := Lib.hid fun w => limits_is ⟨#[81, 85, 79, 84, 73, 69, 78, 84]⟩ 2 2 w (by decide +kernel)
  have hT0 := Lib.hid hT
  have HC := Lib.hid fun w => quotient_any a b v w ha hb hv
  clear hv
  rw [V.val_eq] at HC ⊢
  generalize v.ty = tv at *
  generalize v.raw = xv at *
  clear hA hs hnum hlen hG hT
  go_enter Tryz.func13, Tryz.ntmps13
  go_wp2_with (first
    | (go_at_call 38; refine (HL.out _).mono ?_; rintro e w' ⟨rfl, rfl⟩)
    | (go_at_call 40; fail))
  go_at_call 40
  refine HN.out.mono ?_
  rintro e w1 ⟨l, rfl, ho, hbw⟩
  have ho := ho (by trivial)
  obtain ⟨g1, cap1, rfl, _, _⟩ := ho.form (by simp)
  have hc0 : w1.cell? ⟨g1, 0, none⟩ = some (.int .i64 a) := ho.cellAt 0 (by simp)
  have hc1 : w1.cell? ⟨g1, 1, none⟩ = some (.int .i64 b) := ho.cellAt 1 (by simp)
  have hT1 := hT0.out.below hbw
  have hg1 : g1 < w1.heap.size := lt_of_cell hc0
  clear ho HN
  simp only [List.length_cons, List.length_nil, Nat.reduceAdd]
  go_wp2_with (first
    | (go_at_call 53; refine (HC.out _).mono ?_; rintro e w' ⟨rfl, rfl⟩))
  all_goals go_ret
  all_goals exact ⟨rfl, by first | exact hbw | exact below_drewN hbw _ | exact hbw.trans (‹Below _ _ _›.mono hbw.size)⟩
set_option maxHeartbeats 1600000 in
set_option maxRecDepth 100000 in
theorem call_POWER2 (vs : List V) (g cap : Nat) (a b : Int) (v : V) (w : World) (hG : GM w) (hT : GT w) (hA : ArgsAt w g vs) (hs : ∀ v ∈ vs, v.short 4294967) (hlen : vs.length = 2) (hnum : nums vs [] = ([a, b], 0)) (ha : -999999999999999999 ≤ a ∧ a ≤ 999999999999999999) (hb : -999999999999999999 ≤ b ∧ b ≤ 999999999999999999) (hv : powerV a b = v) :
    Calls Tryz.prog 13 #[.string ⟨#[80, 79, 87, 69, 82]⟩, .slice (some ⟨g, 0, none⟩) 2 cap] w fun e w' => e = .returned v.val ∧ Below w.heap.size w w' := by
  have HN := Lib.hid (hlen ▸ numbers_any vs g cap w hG hA hs (by omega) _ hnum)
  have HL : Hid (∀ w, Calls Tryz.prog 38 #[.string ⟨#[80, 79, 87, 69, 82]⟩] w fun e w' => e = .returned (.tuple #[.int .i64 2, .int .i64 2]) ∧ w = w') := Lib.hid fun w => limits_is ⟨#[80, 79, 87, 69, 82]⟩ 2 2 w (by decide +kernel)
  have hT0 := Lib.hid hT
  have HC := Lib.hid fun w => power_any a b v w ha hb hv
  clear hv
  rw [V.val_eq] at HC ⊢
  generalize v.ty = tv at *
  generalize v.raw = xv at *
  clear hA hs hnum hlen hG hT
  go_enter Tryz.func13, Tryz.ntmps13
  go_wp2_with (first
    | (go_at_call 38; refine (HL.out _).mono ?_; rintro e w' ⟨rfl, rfl⟩)
    | (go_at_call 40; fail))
  go_at_call 40
  refine HN.out.mono ?_
  rintro e w1 ⟨l, rfl, ho, hbw⟩
  have ho := ho (by trivial)
  obtain ⟨g1, cap1, rfl, _, _⟩ := ho.form (by simp)
  have hc0 : w1.cell? ⟨g1, 0, none⟩ = some (.int .i64 a) := ho.cellAt 0 (by simp)
  have hc1 : w1.cell? ⟨g1, 1, none⟩ = some (.int .i64 b) := ho.cellAt 1 (by simp)
  have hT1 := hT0.out.below hbw
  have hg1 : g1 < w1.heap.size := lt_of_cell hc0
  clear ho HN
  simp only [List.length_cons, List.length_nil, Nat.reduceAdd]
  go_wp2_with (first
    | (go_at_call 54; refine (HC.out _).mono ?_; rintro e w' ⟨rfl, d, rfl⟩))
  all_goals go_ret
  all_goals exact ⟨rfl, by first | exact hbw | exact below_drewN hbw _ | exact hbw.trans (‹Below _ _ _›.mono hbw.size)⟩
set_option maxHeartbeats 1600000 in
set_option maxRecDepth 100000 in
theorem call_CLAMP3z (vs : List V) (g cap : Nat) (a b c : Int) (v : V) (w : World) (hG : GM w) (hT : GT w) (hA : ArgsAt w g vs) (hs : ∀ v ∈ vs, v.short 4294967) (hlen : vs.length = 3) (hnum : nums vs [] = ([a, b, c], 0)) (_ha : -999999999999999999 ≤ a ∧ a ≤ 999999999999999999) (_hb : -999999999999999999 ≤ b ∧ b ≤ 999999999999999999) (_hc : -999999999999999999 ≤ c ∧ c ≤ 999999999999999999) (hcb : c < b) (hv : V.fail 2 = v) :
    Calls Tryz.prog 13 #[.string ⟨#[67, 76, 65, 77, 80]⟩, .slice (some ⟨g, 0, none⟩) 3 cap] w fun e w' => e = .returned v.val ∧ Below w.heap.size w w' := by
  have HN := Lib.hid (hlen ▸ numbers_any vs g cap w hG hA hs (by omega) _ hnum)
  have HL : Hid (∀ w, Calls Tryz.prog 38 #[.string ⟨#[67, 76, 65, 77, 80]⟩] w fun e w' => e = .returned (.tuple #[.int .i64 3, .int .i64 3]) ∧ w = w') := Lib.hid fun w => limits_is ⟨#[67, 76, 65, 77, 80]⟩ 3 3 w (by decide +kernel)
  have hT0 := Lib.hid hT
  subst hv
  simp only [V.val]
  clear hA hs hnum hlen hG hT
  go_enter Tryz.func13, Tryz.ntmps13
  go_wp2_with (first
    | (go_at_call 38; refine (HL.out _).mono ?_; rintro e w' ⟨rfl, rfl⟩)
    | (go_at_call 40; fail))
  go_at_call 40
  refine HN.out.mono ?_
  rintro e w1 ⟨l, rfl, ho, hbw⟩
  have ho := ho (by trivial)
  obtain ⟨g1, cap1, rfl, _, _⟩ := ho.form (by simp)
  have hc0 : w1.cell? ⟨g1, 0, none⟩ = some (.int .i64 a) := ho.cellAt 0 (by simp)
  have hc1 : w1.cell? ⟨g1, 1, none⟩ = some (.int .i64 b) := ho.cellAt 1 (by simp)
  have hc2 : w1.cell? ⟨g1, 2, none⟩ = some (.int .i64 c) := ho.cellAt 2 (by simp)
  have hT1 := hT0.out.below hbw
  have hg1 : g1 < w1.heap.size := lt_of_cell hc0
  clear ho HN
  simp only [List.length_cons, List.length_nil, Nat.reduceAdd]
  go_wp2
  go_quiet (fail)
  go_wp2
  try (go_quiet (fail); go_wp2)
  all_goals go_ret
  all_goals exact ⟨rfl, by first | exact hbw | exact below_drewN hbw _ | exact below_drewN (below_drewN hbw _) _⟩
set_option maxHeartbeats 1600000 in
set_option maxRecDepth 100000 in
theorem call_CLAMP3 (vs : List V) (g cap : Nat) (a b c : Int) (v : V) (w : World) (hG : GM w) (hT : GT w) (hA : ArgsAt w g vs) (hs : ∀ v ∈ vs, v.short 4294967) (hlen : vs.length = 3) (hnum : nums vs [] = ([a, b, c], 0)) (_ha : -999999999999999999 ≤ a ∧ a ≤ 999999999999999999) (_hb : -999999999999999999 ≤ b ∧ b ≤ 999999999999999999) (_hc : -999999999999999999 ≤ c ∧ c ≤ 999999999999999999) (hcb : ¬ c < b) (hv : V.num (max (min a c) b) = v) :
    Calls Tryz.prog 13 #[.string ⟨#[67, 76, 65, 77, 80]⟩, .slice (some ⟨g, 0, none⟩) 3 cap] w fun e w' => e = .returned v.val ∧ Below w.heap.size w w' := by
  have HN := Lib.hid (hlen ▸ numbers_any vs g cap w hG hA hs (by omega) _ hnum)
  have HL : Hid (∀ w, Calls Tryz.prog 38 #[.string ⟨#[67, 76, 65, 77, 80]⟩] w fun e w' => e = .returned (.tuple #[.int .i64 3, .int .i64 3]) ∧ w = w') := Lib.hid fun w => limits_is ⟨#[67, 76, 65, 77, 80]⟩ 3 3 w (by decide +kernel)
  have hT0 := Lib.hid hT
  subst hv
  simp only [V.val]
  clear hA hs hnum hlen hG hT
  go_enter Tryz.func13, Tryz.ntmps13
  go_wp2_with (first
    | (go_at_call 38; refine (HL.out _).mono ?_; rintro e w' ⟨rfl, rfl⟩)
    | (go_at_call 40; fail))
  go_at_call 40
  refine HN.out.mono ?_
  rintro e w1 ⟨l, rfl, ho, hbw⟩
  have ho := ho (by trivial)
  obtain ⟨g1, cap1, rfl, _, _⟩ := ho.form (by simp)
  have hc0 : w1.cell? ⟨g1, 0, none⟩ = some (.int .i64 a) := ho.cellAt 0 (by simp)
  have hc1 : w1.cell? ⟨g1, 1, none⟩ = some (.int .i64 b) := ho.cellAt 1 (by simp)
  have hc2 : w1.cell? ⟨g1, 2, none⟩ = some (.int .i64 c) := ho.cellAt 2 (by simp)
  have hT1 := hT0.out.below hbw
  have hg1 : g1 < w1.heap.size := lt_of_cell hc0
  clear ho HN
  simp only [List.length_cons, List.length_nil, Nat.reduceAdd]
  go_wp2
  go_quiet (fail)
  go_wp2
  try (go_quiet (fail); go_wp2)
  all_goals go_ret
  all_goals exact ⟨rfl, by first | exact hbw | exact below_drewN hbw _ | exact below_drewN (below_drewN hbw _) _⟩
end Go.Proofs.YtkobkeopajohiaaGreatDoor
