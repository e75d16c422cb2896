/-
  THE WALK of the law MathsCalls: a function called by name, in the program and in the reference.
-/
import Derived.Test.YtkobkeopajohiaaGreatDoorS20
import Derived.Test.YtkobkeopajohiaaGreatDoorS21
import Derived.Test.YtkobkeopajohiaaGreatDoorF2
namespace Go.Proofs.YtkobkeopajohiaaGreatDoor
open Go.RowKit Go.Lib
set_option maxHeartbeats 6400000 in
set_option maxRecDepth 100000 in
theorem mathsCalls_main (s : ByteArray) (ad : Option Addr) (len cap : Nat) (ps : List P) (hl : ps.length = min len 32) (hlc : len ≤ cap) (hcap : cap ≤ 9223372036854775807) (w : World) (hM : GM w) (hT : GT w) (hU : Lib.Utf8Tabs 4 5 w) (h6 : 5 < w.heap.size)
    (hps : 0 < ps.length → ∃ b off, ad = some ⟨b, off, none⟩ ∧ PlainsAt w b off ps) :
    Calls Tryz.prog 3 #[.string s, .slice ad len cap] w fun e w' => e = .returned (.bool true) ∧ Below w.heap.size w w' := by
  have HCut := Lib.hid fun w => lawCut_any s ⟨(s.data.toList.take 12).toArray⟩ 12 w rfl
  generalize (⟨(s.data.toList.take 12).toArray⟩ : ByteArray) = t at *
  have HAW := Lib.hid fun w hM hT => awake16 w hM hT
  obtain ⟨lo, hi, hlim⟩ : ∃ a b, lim t = (a, b) := ⟨_, _, rfl⟩
  obtain ⟨kk, hkk⟩ : ∃ k, decide (0 < hi) = k := ⟨_, rfl⟩
  have HHas := Lib.hid fun w => has_any t lo hi w hlim kk hkk
  have HRHas := Lib.hid fun w => refHas_any t lo hi w hlim kk hkk
  obtain ⟨v, hb⟩ := both_any t (vsOf ps) (vsOf_short ps) (fun v hv => by
    obtain ⟨p, _, rfl⟩ := List.mem_map.1 hv
    exact of_good _)
  obtain ⟨ya, yb, yc, ev⟩ := tell_form v
  have HTO := Lib.hid fun w => told_any v w
  rw [ev] at HTO
  have hb2 := hb.2
  rw [ev] at hb2
  have HC := Lib.hid hb.1
  have HRC := Lib.hid hb2
  have HFew := Lib.hid fun w => few_any ad len cap ps.length hl hlc hcap w
  have hargs : ∀ c w', Below w.heap.size w w' → Calls Tryz.prog 14 #[.slice ad ps.length c] w' fun e w'' => ∃ g c rs, e = .returned (.slice (some ⟨g, 0, none⟩) (vsOf ps).length c) ∧ GathersR w'' w'.heap.size (.slice (some ⟨g, 0, none⟩) (vsOf ps).length c) (vsOf ps) rs ∧ (vsOf ps).length ≤ c ∧ Below w'.heap.size w' w'' :=
    fun c w' hbl => args_plains ad c ps (by omega) w' (tabs_below hU hbl h6) (Nat.lt_of_lt_of_le h6 hbl.size) (fun h => by
      obtain ⟨b, off, h1, h2⟩ := hps h
      exact ⟨b, off, h1, h2.below hbl h2.1⟩)
  have HArgs := Lib.hid hargs
  have HTold := Lib.hid fun c w' (hbl : Below w.heap.size w w') => told16_any ad ps.length c (vsOf ps) (by simp [vsOf]; omega) w' (fun w'' h => hargs c w'' (hbl.trans (h.mono hbl.size)))
  have HM := Lib.hid hM
  have HT := Lib.hid hT
  generalize vsOf ps = vs at *
  generalize v.val = vv at *
  clear hM hT hU hps hl hlc hcap hb hb2 ev hlim hkk hargs h6
  go_enter Tryz.func3, Tryz.ntmps3
  go_wp2_with (first
    | (go_at_call 7; refine (HCut.out _).mono ?_; rintro e w' ⟨rfl, rfl⟩)
    | (go_at_call 8; fail))
  go_at_call 8
  refine (HFew.out _).mono ?_
  rintro e w' ⟨c0, rfl, hc0, rfl⟩
  go_wp2_with (first | (go_at_call 9; fail))
  go_at_call 9
  refine (HAW.out _ HM.out HT.out).mono ?_
  rintro e w1 ⟨rfl, hb1⟩
  go_wp2_with (first
    | (go_at_call 10; refine (HHas.out _).mono ?_; rintro e w' ⟨rfl, rfl⟩)
    | (go_at_call 11; fail))
  go_at_call 11
  refine (HRHas.out _).mono ?_
  rintro e w2 ⟨rfl, hbx⟩
  have hb2 := hb1.trans (hbx.mono hb1.size)
  clear hb1 hbx
  have hke : (kk == kk) = true := by simp
  go_wp2_with (first | (go_at_call 14; fail))
  go_at_call 14
  refine (HArgs.out _ _ hb2).mono ?_
  rintro e w3 ⟨g, cg, rs, rfl, hg, _, hbx⟩
  have hA := hg.args
  have hb3 := hb2.trans (hbx.mono hb2.size)
  clear hb2 hbx hg
  go_wp2_with (first | (go_at_call 13; fail))
  go_at_call 13
  refine (HC.out _ _ _ (HM.out.below hb3) (HT.out.below hb3) hA).mono ?_
  rintro e w4 ⟨rfl, hbx⟩
  have hb4 := hb3.trans (hbx.mono hb3.size)
  clear hb3 hbx hA
  go_wp2_with (first | (go_at_call 12; fail))
  go_at_call 12
  refine (HTO.out _).mono ?_
  rintro e w5 ⟨rfl, hbx⟩
  have hb5 := hb4.trans (hbx.mono hb4.size)
  clear hb4 hbx
  go_wp2_with (first | (go_at_call 16; fail))
  go_at_call 16
  refine (HTold.out _ _ hb5).mono ?_
  rintro e w6 ⟨g2, cg2, rfl, hTT, hbx⟩
  have hb6 := hb5.trans (hbx.mono hb5.size)
  clear hb5 hbx
  go_wp2_with (first | (go_at_call 15; fail))
  go_at_call 15
  refine (HRC.out _ _ _ hTT).mono ?_
  rintro e w7 ⟨rfl, hbx⟩
  have hb7 := hb6.trans (hbx.mono hb6.size)
  clear hb6 hbx hTT
  go_wp2
  go_ret
  exact ⟨by simp, hb7⟩
theorem mathsCalls_walk (w : World) (s : ByteArray) (_hs : s.size ≤ maxLen) (ad : Option Addr) (len cap : Nat) (ps : List P) (hlc : len ≤ cap) (hcap : cap ≤ maxLen) (hl : ps.length = len) (_hf : ∀ p ∈ ps, p.fits) (hps : 0 < len → ∃ b off, ad = some ⟨b, off, none⟩ ∧ PlainsAt w b off ps)
    (hM : GM w) (hT : GT w) (hU : Lib.Utf8Tabs 4 5 w) (h6 : 5 < w.heap.size) :
    Calls Tryz.prog 3 #[.string s, .slice ad len cap] w fun e w' => e = .returned (.bool true) ∧ Below w.heap.size w w' :=
  mathsCalls_main s ad len cap (ps.take 32) (by rw [List.length_take, hl]; omega) hlc (by unfold maxLen at hcap; omega) w hM hT hU h6 (fun h => by
    rw [List.length_take] at h
    obtain ⟨b, off, h1, h2⟩ := hps (by omega)
    exact ⟨b, off, h1, plains_take 32 h2⟩)
end Go.Proofs.YtkobkeopajohiaaGreatDoor
