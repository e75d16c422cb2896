/-
  FUNCTIONS OF NUMBERS, called by name at any numbers: GCD, LCM.
-/
import Derived.Test.YtkobkeopajohiaaGreatDoorS9
namespace Go.Proofs.YtkobkeopajohiaaGreatDoor
open Go.RowKit Go.Lib
set_option maxHeartbeats 1600000 in
set_option maxRecDepth 100000 in
theorem call_GCDn (vs : List V) (g cap : Nat) (l : List Int) (v : V) (w : World) (hG : GM w) (hA : ArgsAt w g vs) (hs : ∀ v ∈ vs, v.short 4294967) (hn1 : 1 ≤ vs.length) (hn2 : vs.length ≤ 30) (hnum : nums vs [] = (l, 0)) (hl : ∀ a ∈ l, -999999999999999999 ≤ a ∧ a ≤ 999999999999999999) (hll : l.length = vs.length) (hv : manyF true none l = v) :
    Calls Tryz.prog 13 #[.string ⟨#[71, 67, 68]⟩, .slice (some ⟨g, 0, none⟩) vs.length cap] w fun e w' => e = .returned v.val ∧ Below w.heap.size w w' := by
  have HN := Lib.hid (numbers_any vs g cap w hG hA hs (by omega) _ hnum)
  have HL : Hid (∀ w, Calls Tryz.prog 38 #[.string ⟨#[71, 67, 68]⟩] w fun e w' => e = .returned (.tuple #[.int .i64 1, .int .i64 30]) ∧ w = w') := Lib.hid fun w => limits_is ⟨#[71, 67, 68]⟩ 1 30 w (by decide +kernel)
  have HLn := Lib.hid hll
  have HLl := Lib.hid hl
  have HMa := Lib.hid fun g1 cap1 w1 hI hg1 => many_any ⟨#[71, 67, 68]⟩ true g1 cap1 l v w1 (by decide +kernel) hI hg1 hl (by omega) (fun e => by rw [e] at hll; simp at hll; omega) hv
  clear hA hs hnum hG hl hll hv
  generalize vs.length = n at *
  have hni1 : ¬ (n : Int) < 1 := by omega
  have hni2 : ¬ (30 : Int) < n := by omega
  generalize v.val = vv at *
  go_enter Tryz.func13, Tryz.ntmps13
  go_wp2_with (first
    | (go_at_call 38; refine (HL.out _).mono ?_; rintro e w' ⟨rfl, rfl⟩)
    | (go_at_call 40; fail))
  go_at_call 40
  refine HN.out.mono ?_
  rintro e w1 ⟨lv, rfl, ho, hb⟩
  have ho := ho (by trivial)
  obtain ⟨g1, cap1, rfl, _, _⟩ := ho.form (by rw [HLn.out]; omega)
  have hI : IntAt w1 g1 l := fun i x hx => by
    have hil : i < l.length := by
      rcases Nat.lt_or_ge i l.length with h | h
      · exact h
      · rw [List.getElem?_eq_none h] at hx; simp at hx
    refine (ho.cellAt i (by omega)).trans ?_
    rw [List.getElem?_map, hx]
    rfl
  obtain ⟨x0, hx0⟩ : ∃ x, l[0]? = some x := ⟨l[0]'(by rw [HLn.out]; omega), List.getElem?_eq_getElem _⟩
  have hc0 := hI 0 x0 hx0
  have hg1 : g1 < w1.heap.size := lt_of_cell hc0
  have hM := Lib.hid (HMa.out g1 cap1 w1 hI hg1)
  have hlen : 0 < l.length := by rw [HLn.out]; omega
  clear ho HN HMa hI hx0
  go_wp2_with (first | (go_at_call 58; fail))
  go_at_call 58
  refine hM.out.mono ?_
  rintro e w2 ⟨rfl, hb2⟩
  have hb12 := hb.trans (hb2.mono hb.size)
  go_wp2
  go_ret
  exact ⟨rfl, hb12⟩
set_option maxHeartbeats 1600000 in
set_option maxRecDepth 100000 in
theorem call_LCMn (vs : List V) (g cap : Nat) (l : List Int) (v : V) (w : World) (hG : GM w) (hA : ArgsAt w g vs) (hs : ∀ v ∈ vs, v.short 4294967) (hn1 : 1 ≤ vs.length) (hn2 : vs.length ≤ 30) (hnum : nums vs [] = (l, 0)) (hl : ∀ a ∈ l, -999999999999999999 ≤ a ∧ a ≤ 999999999999999999) (hll : l.length = vs.length) (hv : manyF false none l = v) :
    Calls Tryz.prog 13 #[.string ⟨#[76, 67, 77]⟩, .slice (some ⟨g, 0, none⟩) vs.length cap] w fun e w' => e = .returned v.val ∧ Below w.heap.size w w' := by
  have HN := Lib.hid (numbers_any vs g cap w hG hA hs (by omega) _ hnum)
  have HL : Hid (∀ w, Calls Tryz.prog 38 #[.string ⟨#[76, 67, 77]⟩] w fun e w' => e = .returned (.tuple #[.int .i64 1, .int .i64 30]) ∧ w = w') := Lib.hid fun w => limits_is ⟨#[76, 67, 77]⟩ 1 30 w (by decide +kernel)
  have HLn := Lib.hid hll
  have HLl := Lib.hid hl
  have HMa := Lib.hid fun g1 cap1 w1 hI hg1 => many_any ⟨#[76, 67, 77]⟩ false g1 cap1 l v w1 (by decide +kernel) hI hg1 hl (by omega) (fun e => by rw [e] at hll; simp at hll; omega) hv
  clear hA hs hnum hG hl hll hv
  generalize vs.length = n at *
  have hni1 : ¬ (n : Int) < 1 := by omega
  have hni2 : ¬ (30 : Int) < n := by omega
  generalize v.val = vv at *
  go_enter Tryz.func13, Tryz.ntmps13
  go_wp2_with (first
    | (go_at_call 38; refine (HL.out _).mono ?_; rintro e w' ⟨rfl, rfl⟩)
    | (go_at_call 40; fail))
  go_at_call 40
  refine HN.out.mono ?_
  rintro e w1 ⟨lv, rfl, ho, hb⟩
  have ho := ho (by trivial)
  obtain ⟨g1, cap1, rfl, _, _⟩ := ho.form (by rw [HLn.out]; omega)
  have hI : IntAt w1 g1 l := fun i x hx => by
    have hil : i < l.length := by
      rcases Nat.lt_or_ge i l.length with h | h
      · exact h
      · rw [List.getElem?_eq_none h] at hx; simp at hx
    refine (ho.cellAt i (by omega)).trans ?_
    rw [List.getElem?_map, hx]
    rfl
  obtain ⟨x0, hx0⟩ : ∃ x, l[0]? = some x := ⟨l[0]'(by rw [HLn.out]; omega), List.getElem?_eq_getElem _⟩
  have hc0 := hI 0 x0 hx0
  have hg1 : g1 < w1.heap.size := lt_of_cell hc0
  have hM := Lib.hid (HMa.out g1 cap1 w1 hI hg1)
  have hlen : 0 < l.length := by rw [HLn.out]; omega
  clear ho HN HMa hI hx0
  go_wp2_with (first | (go_at_call 58; fail))
  go_at_call 58
  refine hM.out.mono ?_
  rintro e w2 ⟨rfl, hb2⟩
  have hb12 := hb.trans (hb2.mono hb.size)
  go_wp2
  go_ret
  exact ⟨rfl, hb12⟩
end Go.Proofs.YtkobkeopajohiaaGreatDoor
