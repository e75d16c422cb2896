/-
  FUNCTIONS OF NUMBERS, called by name at any numbers: ABS, SIGN, INT, SQRT, FACT, EVEN, ODD.
-/
import Derived.Test.YtkobkeopajohiaaGreatDoorS4
import Derived.Test.YtkobkeopajohiaaGreatDoorS5
import Derived.Test.YtkobkeopajohiaaGreatDoorF1
namespace Go.Proofs.YtkobkeopajohiaaGreatDoor
open Go.RowKit Go.Lib
theorem limits_is (s : ByteArray) (a b : Int) (w : World) (h : lim s = (a, b)) :
    Calls Tryz.prog 38 #[.string s] w fun e w' => e = .returned (.tuple #[.int .i64 a, .int .i64 b]) ∧ w = w' := by
  have := limits_any s w
  rw [h] at this
  exact this
/-- the whole root of a number; false: of one below nought there is none -/
def sqrtR (a : Int) : Int × Bool := if a < 0 then (0, false) else ((Tab.sqrtS a : Int), true)
def sqrtV (a : Int) : V := cnt (sqrtR a)
theorem sqrtR_any (a m : Int) (ok : Bool) (w : World) (ha : -999999999999999999 ≤ a ∧ a ≤ 999999999999999999) (h : sqrtR a = (m, ok)) :
    Calls Tryz.prog 55 #[.int .i64 a] w fun e w' => e = .returned (.tuple #[.int .i64 m, .bool ok]) ∧ w = w' := by
  unfold sqrtR at h
  by_cases hn : a < 0
  · rw [if_pos hn] at h
    obtain ⟨rfl, rfl⟩ := Prod.mk.inj h
    clear h
    go_enter Tryz.func55, Tryz.ntmps55
    go_wp2
    go_ret2
    exact ⟨rfl, rfl⟩
  · rw [if_neg hn] at h
    obtain ⟨rfl, rfl⟩ := Prod.mk.inj h
    exact sqrt_any a w (by omega) ha.2
/-- a count of places -/
def plc (b : Int) : Int := max (min (b.tdiv 10000) 20) (-20)
theorem plc_bd (b : Int) : -20 ≤ plc b ∧ plc b ≤ 20 := by unfold plc; omega
theorem second_one (b cap : Nat) (o : Int) (w : World) :
    Calls Tryz.prog 50 #[.slice (some ⟨b, 0, none⟩) 1 cap, .int .i64 o] w fun e w' => e = .returned (.int .i64 o) ∧ w = w' := by
  go_enter Tryz.func50, Tryz.ntmps50
  go_wp2
  go_ret
  exact ⟨rfl, rfl⟩
theorem places_one (b cap : Nat) (w : World) :
    Calls Tryz.prog 46 #[.slice (some ⟨b, 0, none⟩) 1 cap] w fun e w' => e = .returned (.int .i64 0) ∧ w = w' := by
  have HS := Lib.hid (second_one b cap 0 w)
  have HW : Hid (∀ w, Calls Tryz.prog 114 #[.int .i64 0] w fun e w' => e = .returned (.int .i64 0) ∧ w = w') := Lib.hid fun w => whole_any 0 w (by omega) (by omega)
  go_enter Tryz.func46, Tryz.ntmps46
  go_wp2_with (first
    | (go_at_call 50; refine HS.out.mono ?_; rintro e w' ⟨rfl, rfl⟩)
    | (go_at_call 114; refine (HW.out _).mono ?_; rintro e w' ⟨rfl, rfl⟩))
  go_ret
  exact ⟨rfl, rfl⟩
theorem places_is (b cap : Nat) (x p : Int) (w : World) (h : w.cell? ⟨b, 1, none⟩ = some (.int .i64 x)) (hx : -999999999999999999 ≤ x ∧ x ≤ 999999999999999999) (hp : plc x = p) :
    Calls Tryz.prog 46 #[.slice (some ⟨b, 0, none⟩) 2 cap] w fun e w' => e = .returned (.int .i64 p) ∧ w = w' := by
  have HS := Lib.hid (second_two b cap 0 x w h)
  have HW := Lib.hid fun w => whole_any x w hx.1 hx.2
  unfold plc at hp
  generalize x.tdiv 10000 = q at *
  have HP := Lib.hid hp
  clear h hp
  go_enter Tryz.func46, Tryz.ntmps46
  go_wp2_with (first
    | (go_at_call 50; refine HS.out.mono ?_; rintro e w' ⟨rfl, rfl⟩)
    | (go_at_call 114; refine (HW.out _).mono ?_; rintro e w' ⟨rfl, rfl⟩))
  go_ret
  exact ⟨ret_int HP.out, rfl⟩
set_option maxHeartbeats 1600000 in
set_option maxRecDepth 100000 in
theorem call_ABS1 (vs : List V) (g cap : Nat) (a : Int) (v : V) (w : World) (hG : GM w) (hT : GT w) (hA : ArgsAt w g vs) (hs : ∀ v ∈ vs, v.short 4294967) (hlen : vs.length = 1) (hnum : nums vs [] = ([a], 0)) (_ha : -999999999999999999 ≤ a ∧ a ≤ 999999999999999999) (hv : V.num (a.natAbs : Int) = v) :
    Calls Tryz.prog 13 #[.string ⟨#[65, 66, 83]⟩, .slice (some ⟨g, 0, none⟩) 1 cap] w fun e w' => e = .returned v.val ∧ Below w.heap.size w w' := by
  have HN := Lib.hid (hlen ▸ numbers_any vs g cap w hG hA hs (by omega) _ hnum)
  have HL : Hid (∀ w, Calls Tryz.prog 38 #[.string ⟨#[65, 66, 83]⟩] w fun e w' => e = .returned (.tuple #[.int .i64 1, .int .i64 1]) ∧ w = w') := Lib.hid fun w => limits_is ⟨#[65, 66, 83]⟩ 1 1 w (by decide +kernel)
  have hT0 := Lib.hid hT
  have HX := Lib.hid fun w => abs_any a w (by omega) (by omega)
  subst hv
  simp only [V.val]
  clear hA hs hnum hlen hG hT
  go_enter Tryz.func13, Tryz.ntmps13
  go_wp2_with (first
    | (go_at_call 38; refine (HL.out _).mono ?_; rintro e w' ⟨rfl, rfl⟩)
    | (go_at_call 40; fail))
  go_at_call 40
  refine HN.out.mono ?_
  rintro e w1 ⟨l, rfl, ho, hb⟩
  have ho := ho (by trivial)
  obtain ⟨g1, cap1, rfl, _, _⟩ := ho.form (by simp)
  have hc0 : w1.cell? ⟨g1, 0, none⟩ = some (.int .i64 a) := ho.cellAt 0 (by simp)
  have hT1 := hT0.out.below hb
  have hg1 : g1 < w1.heap.size := lt_of_cell hc0
  clear ho HN
  simp only [List.length_cons, List.length_nil, Nat.reduceAdd]
  go_wp2_with (first
    | (go_at_call 41; refine (HX.out _).mono ?_; rintro e w' ⟨rfl, rfl⟩))
  all_goals go_ret
  all_goals exact ⟨rfl, by first | exact hb | exact below_drewN hb _ | exact hb.trans (‹Below _ _ _›.mono hb.size)⟩
set_option maxHeartbeats 1600000 in
set_option maxRecDepth 100000 in
theorem call_SIGN1 (vs : List V) (g cap : Nat) (a : Int) (v : V) (w : World) (hG : GM w) (hT : GT w) (hA : ArgsAt w g vs) (hs : ∀ v ∈ vs, v.short 4294967) (hlen : vs.length = 1) (hnum : nums vs [] = ([a], 0)) (_ha : -999999999999999999 ≤ a ∧ a ≤ 999999999999999999) (hv : V.num (a.sign * 10000) = v) :
    Calls Tryz.prog 13 #[.string ⟨#[83, 73, 71, 78]⟩, .slice (some ⟨g, 0, none⟩) 1 cap] w fun e w' => e = .returned v.val ∧ Below w.heap.size w w' := by
  have HN := Lib.hid (hlen ▸ numbers_any vs g cap w hG hA hs (by omega) _ hnum)
  have HL : Hid (∀ w, Calls Tryz.prog 38 #[.string ⟨#[83, 73, 71, 78]⟩] w fun e w' => e = .returned (.tuple #[.int .i64 1, .int .i64 1]) ∧ w = w') := Lib.hid fun w => limits_is ⟨#[83, 73, 71, 78]⟩ 1 1 w (by decide +kernel)
  have hT0 := Lib.hid hT
  have HX := Lib.hid fun w => sign_any a w
  subst hv
  simp only [V.val]
  have hsb : -1 ≤ a.sign ∧ a.sign ≤ 1 := by rcases Int.lt_trichotomy a 0 with h | h | h; rw [Int.sign_eq_neg_one_of_neg h]; decide; rw [h]; decide; rw [Int.sign_eq_one_of_pos h]; decide
  obtain ⟨s0, s1⟩ := hsb
  generalize a.sign = sg at *
  clear hA hs hnum hlen hG hT
  go_enter Tryz.func13, Tryz.ntmps13
  go_wp2_with (first
    | (go_at_call 38; refine (HL.out _).mono ?_; rintro e w' ⟨rfl, rfl⟩)
    | (go_at_call 40; fail))
  go_at_call 40
  refine HN.out.mono ?_
  rintro e w1 ⟨l, rfl, ho, hb⟩
  have ho := ho (by trivial)
  obtain ⟨g1, cap1, rfl, _, _⟩ := ho.form (by simp)
  have hc0 : w1.cell? ⟨g1, 0, none⟩ = some (.int .i64 a) := ho.cellAt 0 (by simp)
  have hT1 := hT0.out.below hb
  have hg1 : g1 < w1.heap.size := lt_of_cell hc0
  clear ho HN
  simp only [List.length_cons, List.length_nil, Nat.reduceAdd]
  go_wp2_with (first
    | (go_at_call 42; refine (HX.out _).mono ?_; rintro e w' ⟨rfl, rfl⟩))
  all_goals go_ret
  all_goals exact ⟨rfl, by first | exact hb | exact below_drewN hb _ | exact hb.trans (‹Below _ _ _›.mono hb.size)⟩
set_option maxHeartbeats 1600000 in
set_option maxRecDepth 100000 in
theorem call_INT1 (vs : List V) (g cap : Nat) (a : Int) (v : V) (w : World) (hG : GM w) (hT : GT w) (hA : ArgsAt w g vs) (hs : ∀ v ∈ vs, v.short 4294967) (hlen : vs.length = 1) (hnum : nums vs [] = ([a], 0)) (ha : -999999999999999999 ≤ a ∧ a ≤ 999999999999999999) (hv : cnt (Tab.fit (a - a % 10000)) = v) :
    Calls Tryz.prog 13 #[.string ⟨#[73, 78, 84]⟩, .slice (some ⟨g, 0, none⟩) 1 cap] w fun e w' => e = .returned v.val ∧ Below w.heap.size w w' := by
  have HN := Lib.hid (hlen ▸ numbers_any vs g cap w hG hA hs (by omega) _ hnum)
  have HL : Hid (∀ w, Calls Tryz.prog 38 #[.string ⟨#[73, 78, 84]⟩] w fun e w' => e = .returned (.tuple #[.int .i64 1, .int .i64 1]) ∧ w = w') := Lib.hid fun w => limits_is ⟨#[73, 78, 84]⟩ 1 1 w (by decide +kernel)
  have hT0 := Lib.hid hT
  have HX : Hid (∀ w, Calls Tryz.prog 44 #[.int .i64 a, .int .i64 10000] w fun e w' => e = .returned (.tuple #[.int .i64 (Tab.fit (a - a % 10000)).1, .bool (Tab.fit (a - a % 10000)).2]) ∧ w = w') := Lib.hid fun w => floor_any a 10000 w ha (by omega)
  obtain ⟨m, ok, hm⟩ : ∃ m ok, Tab.fit (a - a % 10000) = (m, ok) := ⟨_, _, rfl⟩
  rw [hm] at hv
  have HC := Lib.hid fun w => counted_v m ok v w hv
  rw [hm] at HX
  clear hm hv
  rw [V.val_eq] at HC ⊢
  generalize v.ty = tv at *
  generalize v.raw = xv at *
  clear hA hs hnum hlen hG hT
  go_enter Tryz.func13, Tryz.ntmps13
  go_wp2_with (first
    | (go_at_call 38; refine (HL.out _).mono ?_; rintro e w' ⟨rfl, rfl⟩)
    | (go_at_call 40; fail))
  go_at_call 40
  refine HN.out.mono ?_
  rintro e w1 ⟨l, rfl, ho, hb⟩
  have ho := ho (by trivial)
  obtain ⟨g1, cap1, rfl, _, _⟩ := ho.form (by simp)
  have hc0 : w1.cell? ⟨g1, 0, none⟩ = some (.int .i64 a) := ho.cellAt 0 (by simp)
  have hT1 := hT0.out.below hb
  have hg1 : g1 < w1.heap.size := lt_of_cell hc0
  clear ho HN
  simp only [List.length_cons, List.length_nil, Nat.reduceAdd]
  go_wp2_with (first
    | (go_at_call 44; refine (HX.out _).mono ?_; rintro e w' ⟨rfl, rfl⟩)
    | (go_at_call 43; refine (HC.out _).mono ?_; rintro e w' ⟨rfl, rfl⟩))
  all_goals go_ret
  all_goals exact ⟨rfl, by first | exact hb | exact below_drewN hb _ | exact hb.trans (‹Below _ _ _›.mono hb.size)⟩
set_option maxHeartbeats 1600000 in
set_option maxRecDepth 100000 in
theorem call_SQRT1 (vs : List V) (g cap : Nat) (a : Int) (v : V) (w : World) (hG : GM w) (hT : GT w) (hA : ArgsAt w g vs) (hs : ∀ v ∈ vs, v.short 4294967) (hlen : vs.length = 1) (hnum : nums vs [] = ([a], 0)) (ha : -999999999999999999 ≤ a ∧ a ≤ 999999999999999999) (hv : sqrtV a = v) :
    Calls Tryz.prog 13 #[.string ⟨#[83, 81, 82, 84]⟩, .slice (some ⟨g, 0, none⟩) 1 cap] w fun e w' => e = .returned v.val ∧ Below w.heap.size w w' := by
  have HN := Lib.hid (hlen ▸ numbers_any vs g cap w hG hA hs (by omega) _ hnum)
  have HL : Hid (∀ w, Calls Tryz.prog 38 #[.string ⟨#[83, 81, 82, 84]⟩] w fun e w' => e = .returned (.tuple #[.int .i64 1, .int .i64 1]) ∧ w = w') := Lib.hid fun w => limits_is ⟨#[83, 81, 82, 84]⟩ 1 1 w (by decide +kernel)
  have hT0 := Lib.hid hT
  obtain ⟨m, ok, hm⟩ : ∃ m ok, sqrtR a = (m, ok) := ⟨_, _, rfl⟩
  have HX := Lib.hid fun w => sqrtR_any a m ok w ha hm
  unfold sqrtV at hv
  rw [hm] at hv
  have HC := Lib.hid fun w => counted_v m ok v w hv
  clear hm hv
  rw [V.val_eq] at HC ⊢
  generalize v.ty = tv at *
  generalize v.raw = xv at *
  clear hA hs hnum hlen hG hT
  go_enter Tryz.func13, Tryz.ntmps13
  go_wp2_with (first
    | (go_at_call 38; refine (HL.out _).mono ?_; rintro e w' ⟨rfl, rfl⟩)
    | (go_at_call 40; fail))
  go_at_call 40
  refine HN.out.mono ?_
  rintro e w1 ⟨l, rfl, ho, hb⟩
  have ho := ho (by trivial)
  obtain ⟨g1, cap1, rfl, _, _⟩ := ho.form (by simp)
  have hc0 : w1.cell? ⟨g1, 0, none⟩ = some (.int .i64 a) := ho.cellAt 0 (by simp)
  have hT1 := hT0.out.below hb
  have hg1 : g1 < w1.heap.size := lt_of_cell hc0
  clear ho HN
  simp only [List.length_cons, List.length_nil, Nat.reduceAdd]
  go_wp2_with (first
    | (go_at_call 55; refine (HX.out _).mono ?_; rintro e w' ⟨rfl, rfl⟩)
    | (go_at_call 43; refine (HC.out _).mono ?_; rintro e w' ⟨rfl, rfl⟩))
  all_goals go_ret
  all_goals exact ⟨rfl, by first | exact hb | exact below_drewN hb _ | exact hb.trans (‹Below _ _ _›.mono hb.size)⟩
set_option maxHeartbeats 1600000 in
set_option maxRecDepth 100000 in
theorem call_FACT1 (vs : List V) (g cap : Nat) (a : Int) (v : V) (w : World) (hG : GM w) (hT : GT w) (hA : ArgsAt w g vs) (hs : ∀ v ∈ vs, v.short 4294967) (hlen : vs.length = 1) (hnum : nums vs [] = ([a], 0)) (ha : -999999999999999999 ≤ a ∧ a ≤ 999999999999999999) (hv : factV a = v) :
    Calls Tryz.prog 13 #[.string ⟨#[70, 65, 67, 84]⟩, .slice (some ⟨g, 0, none⟩) 1 cap] w fun e w' => e = .returned v.val ∧ Below w.heap.size w w' := by
  have HN := Lib.hid (hlen ▸ numbers_any vs g cap w hG hA hs (by omega) _ hnum)
  have HL : Hid (∀ w, Calls Tryz.prog 38 #[.string ⟨#[70, 65, 67, 84]⟩] w fun e w' => e = .returned (.tuple #[.int .i64 1, .int .i64 1]) ∧ w = w') := Lib.hid fun w => limits_is ⟨#[70, 65, 67, 84]⟩ 1 1 w (by decide +kernel)
  have hT0 := Lib.hid hT
  have HC := Lib.hid fun w => fact_any a v w ha hv
  clear hv
  rw [V.val_eq] at HC ⊢
  generalize v.ty = tv at *
  generalize v.raw = xv at *
  clear hA hs hnum hlen hG hT
  go_enter Tryz.func13, Tryz.ntmps13
  go_wp2_with (first
    | (go_at_call 38; refine (HL.out _).mono ?_; rintro e w' ⟨rfl, rfl⟩)
    | (go_at_call 40; fail))
  go_at_call 40
  refine HN.out.mono ?_
  rintro e w1 ⟨l, rfl, ho, hb⟩
  have ho := ho (by trivial)
  obtain ⟨g1, cap1, rfl, _, _⟩ := ho.form (by simp)
  have hc0 : w1.cell? ⟨g1, 0, none⟩ = some (.int .i64 a) := ho.cellAt 0 (by simp)
  have hT1 := hT0.out.below hb
  have hg1 : g1 < w1.heap.size := lt_of_cell hc0
  clear ho HN
  simp only [List.length_cons, List.length_nil, Nat.reduceAdd]
  go_wp2_with (first
    | (go_at_call 56; refine (HC.out _).mono ?_; rintro e w' ⟨rfl, d, rfl⟩))
  all_goals go_ret
  all_goals exact ⟨rfl, by first | exact hb | exact below_drewN hb _ | exact hb.trans (‹Below _ _ _›.mono hb.size)⟩
set_option maxHeartbeats 1600000 in
set_option maxRecDepth 100000 in
theorem call_EVEN1 (vs : List V) (g cap : Nat) (a : Int) (v : V) (w : World) (hG : GM w) (hT : GT w) (hA : ArgsAt w g vs) (hs : ∀ v ∈ vs, v.short 4294967) (hlen : vs.length = 1) (hnum : nums vs [] = ([a], 0)) (ha : -999999999999999999 ≤ a ∧ a ≤ 999999999999999999) (hv : pairV a 0 = v) :
    Calls Tryz.prog 13 #[.string ⟨#[69, 86, 69, 78]⟩, .slice (some ⟨g, 0, none⟩) 1 cap] w fun e w' => e = .returned v.val ∧ Below w.heap.size w w' := by
  have HN := Lib.hid (hlen ▸ numbers_any vs g cap w hG hA hs (by omega) _ hnum)
  have HL : Hid (∀ w, Calls Tryz.prog 38 #[.string ⟨#[69, 86, 69, 78]⟩] w fun e w' => e = .returned (.tuple #[.int .i64 1, .int .i64 1]) ∧ w = w') := Lib.hid fun w => limits_is ⟨#[69, 86, 69, 78]⟩ 1 1 w (by decide +kernel)
  have hT0 := Lib.hid hT
  have HC : Hid (∀ w, Calls Tryz.prog 57 #[.int .i64 a, .int .i64 0] w fun e w' => e = .returned v.val ∧ w = w') := Lib.hid fun w => pair_any a 0 v w (by omega) ha hv
  clear hv
  rw [V.val_eq] at HC ⊢
  generalize v.ty = tv at *
  generalize v.raw = xv at *
  clear hA hs hnum hlen hG hT
  go_enter Tryz.func13, Tryz.ntmps13
  go_wp2_with (first
    | (go_at_call 38; refine (HL.out _).mono ?_; rintro e w' ⟨rfl, rfl⟩)
    | (go_at_call 40; fail))
  go_at_call 40
  refine HN.out.mono ?_
  rintro e w1 ⟨l, rfl, ho, hb⟩
  have ho := ho (by trivial)
  obtain ⟨g1, cap1, rfl, _, _⟩ := ho.form (by simp)
  have hc0 : w1.cell? ⟨g1, 0, none⟩ = some (.int .i64 a) := ho.cellAt 0 (by simp)
  have hT1 := hT0.out.below hb
  have hg1 : g1 < w1.heap.size := lt_of_cell hc0
  clear ho HN
  simp only [List.length_cons, List.length_nil, Nat.reduceAdd]
  go_wp2_with (first
    | (go_at_call 57; refine (HC.out _).mono ?_; rintro e w' ⟨rfl, rfl⟩))
  all_goals go_ret
  all_goals exact ⟨rfl, by first | exact hb | exact below_drewN hb _ | exact hb.trans (‹Below _ _ _›.mono hb.size)⟩
set_option maxHeartbeats 1600000 in
set_option maxRecDepth 100000 in
theorem call_ODD1 (vs : List V) (g cap : Nat) (a : Int) (v : V) (w : World) (hG : GM w) (hT : GT w) (hA : ArgsAt w g vs) (hs : ∀ v ∈ vs, v.short 4294967) (hlen : vs.length = 1) (hnum : nums vs [] = ([a], 0)) (ha : -999999999999999999 ≤ a ∧ a ≤ 999999999999999999) (hv : pairV a 1 = v) :
    Calls Tryz.prog 13 #[.string ⟨#[79, 68, 68]⟩, .slice (some ⟨g, 0, none⟩) 1 cap] w fun e w' => e = .returned v.val ∧ Below w.heap.size w w' := by
  have HN := Lib.hid (hlen ▸ numbers_any vs g cap w hG hA hs (by omega) _ hnum)
  have HL : Hid (∀ w, Calls Tryz.prog 38 #[.string ⟨#[79, 68, 68]⟩] w fun e w' => e = .returned (.tuple #[.int .i64 1, .int .i64 1]) ∧ w = w') := Lib.hid fun w => limits_is ⟨#[79, 68, 68]⟩ 1 1 w (by decide +kernel)
  have hT0 := Lib.hid hT
  have HC : Hid (∀ w, Calls Tryz.prog 57 #[.int .i64 a, .int .i64 1] w fun e w' => e = .returned v.val ∧ w = w') := Lib.hid fun w => pair_any a 1 v w (by omega) ha hv
  clear hv
  rw [V.val_eq] at HC ⊢
  generalize v.ty = tv at *
  generalize v.raw = xv at *
  clear hA hs hnum hlen hG hT
  go_enter Tryz.func13, Tryz.ntmps13
  go_wp2_with (first
    | (go_at_call 38; refine (HL.out _).mono ?_; rintro e w' ⟨rfl, rfl⟩)
    | (go_at_call 40; fail))
  go_at_call 40
  refine HN.out.mono ?_
  rintro e w1 ⟨l, rfl, ho, hb⟩
  have ho := ho (by trivial)
  obtain ⟨g1, cap1, rfl, _, _⟩ := ho.form (by simp)
  have hc0 : w1.cell? ⟨g1, 0, none⟩ = some (.int .i64 a) := ho.cellAt 0 (by simp)
  have hT1 := hT0.out.below hb
  have hg1 : g1 < w1.heap.size := lt_of_cell hc0
  clear ho HN
  simp only [List.length_cons, List.length_nil, Nat.reduceAdd]
  go_wp2_with (first
    | (go_at_call 57; refine (HC.out _).mono ?_; rintro e w' ⟨rfl, rfl⟩))
  all_goals go_ret
  all_goals exact ⟨rfl, by first | exact hb | exact below_drewN hb _ | exact hb.trans (‹Below _ _ _›.mono hb.size)⟩
end Go.Proofs.YtkobkeopajohiaaGreatDoor
