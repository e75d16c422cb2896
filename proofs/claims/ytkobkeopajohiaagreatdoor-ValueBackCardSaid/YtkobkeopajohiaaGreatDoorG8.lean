/-
  CONTRACTS for the helper awake of layer 15: Input at a number, a sum, Typed at a text that is a number, Show at a failure.
-/
import Derived.Test.YtkobkeopajohiaaGreatDoorG6
import Derived.Test.YtkobkeopajohiaaGreatDoorE2
import Derived.Test.YtkobkeopajohiaaGreatDoorQ1
import Derived.Test.YtkobkeopajohiaaGreatDoorV12
namespace Go.Proofs.YtkobkeopajohiaaGreatDoor
open Go.RowKit Go.Lib

set_option maxRecDepth 100000 in
theorem input_num (s : ByteArray) (n : Int) (w : World) (hG : GM w) (hs : s.size ≤ 4294967) (hp : Lib.hasPrefix s.data.toList [39] = false) (hpr : Tab.parse (Lib.trimB s.data.toList 32) = (n, true)) :
    Calls Tryz.prog 34 #[.string s] w fun e w' => e = .returned (V.num n).val ∧ Below w.heap.size w w' := by
  have HC := Lib.hid fun w => Tryz.strings_CutPrefix s ⟨#[39]⟩ w
  rw [show (Lib.hasPrefix s.data.toList (ByteArray.mk #[39]).data.toList) = false from hp] at HC
  have hz : (⟨(Lib.trimB s.data.toList 32).toArray⟩ : ByteArray).size < 4294967281 := by
    have := trimB_le s.data.toList 32
    rw [size_eq]
    show (Lib.trimB s.data.toList 32).length < _
    rw [← size_eq] at this
    omega
  have HT := Lib.hid fun w => trim_any s w (by omega)
  have HP := Lib.hid fun w hM => parse_is ⟨(Lib.trimB s.data.toList 32).toArray⟩ n true w hM hz hpr
  generalize (Lib.trimB s.data.toList 32).toArray = t at *
  generalize (Lib.trimPrefix s.data.toList (ByteArray.mk #[39]).data.toList).toArray = q at *
  clear hz hpr hp
  go_enter Tryz.func34, Tryz.ntmps34
  go_wp2_with (first | (go_at_call 110; refine (HC.out _).mono ?_; rintro e w' ⟨rfl, rfl⟩) | (go_at_call 101; fail))
  go_at_call 101
  refine (HT.out _).mono ?_
  rintro e w1 ⟨rfl, hb1⟩
  have hM1 := hG.below hb1
  go_wp2_with (first | (go_at_call 100; fail))
  go_at_call 100
  refine (HP.out _ hM1).mono ?_
  rintro e w2 ⟨rfl, hb2⟩
  have hb12 := hb1.trans (hb2.mono hb1.size)
  go_wp2
  go_ret
  exact ⟨rfl, hb12⟩
set_option maxRecDepth 100000 in
theorem arith_add (a b : V) (x y n : Int) (w : World) (hG : GM w) (ha : a.short 4294967) (hb : b.short 4294967) (hx : a.asNum = (x, 0)) (hy : b.asNum = (y, 0)) (h : -2000000000000000000 ≤ x + y ∧ x + y ≤ 2000000000000000000) (hf : Tab.fit (x + y) = (n, true)) :
    Calls Tryz.prog 25 #[.int .i64 0, a.val, b.val] w fun e w' => e = .returned (V.num n).val ∧ Below w.heap.size w w' := by
  have HA := Lib.hid fun w hM => asNumber_is a x 0 w hM ha hx
  have HB := Lib.hid fun w hM => asNumber_is b y 0 w hM hb hy
  have HAdd := Lib.hid fun w => add_is x y n true w h hf
  have HC := Lib.hid fun w => counted_yes n w
  clear ha hb hx hy h hf
  rw [V.val_eq] at HA HB
  rw [V.val_eq, V.val_eq]
  generalize a.ty = ta at *
  generalize a.raw = xa at *
  generalize b.ty = tb at *
  generalize b.raw = xb at *
  go_enter Tryz.func25, Tryz.ntmps25
  go_wp2_with (first | (go_at_call 27; fail))
  go_at_call 27
  refine (HA.out _ hG).mono ?_
  rintro e w1 ⟨rfl, hb1⟩
  have hM1 := hG.below hb1
  go_wp2_with (first | (go_at_call 27; fail))
  go_at_call 27
  refine (HB.out _ hM1).mono ?_
  rintro e w2 ⟨rfl, hb2⟩
  have hb12 := hb1.trans (hb2.mono hb1.size)
  clear hb1 hb2 hM1
  go_wp2_with (first
    | (go_at_call 93; refine (HAdd.out _).mono ?_; rintro e w' ⟨rfl, rfl⟩)
    | (go_at_call 43; refine (HC.out _).mono ?_; rintro e w' ⟨rfl, rfl⟩))
  go_ret
  exact ⟨rfl, hb12⟩
set_option maxRecDepth 100000 in
theorem typed_num (s : ByteArray) (n : Int) (w : World) (hin : Calls Tryz.prog 34 #[.string s] w fun e w' => e = .returned (V.num n).val ∧ Below w.heap.size w w') (hs : s.size ≤ 4294967) :
    Calls Tryz.prog 35 #[(V.text s).val] w fun e w' => e = .returned (.string (⟨#[39]⟩ ++ s)) ∧ Below w.heap.size w w' := by
  have HI := Lib.hid hin
  clear hin
  simp only [V.val] at HI ⊢
  go_enter Tryz.func35, Tryz.ntmps35
  go_wp2_with (first | (go_at_call 34; fail))
  go_at_call 34
  refine HI.out.mono ?_
  rintro e w1 ⟨rfl, hb1⟩
  go_wp2
  go_ret
  exact ⟨rfl, hb1⟩
/-- the seven texts of failures -/
def errTexts : List ByteArray := [⟨#[35, 68, 73, 86, 47, 48, 33]⟩, ⟨#[35, 78, 85, 77, 33]⟩, ⟨#[35, 86, 65, 76, 85, 69, 33]⟩, ⟨#[35, 82, 69, 70, 33]⟩, ⟨#[35, 78, 47, 65]⟩, ⟨#[35, 78, 65, 77, 69, 63]⟩, ⟨#[35, 67, 89, 67, 76, 69, 33]⟩]
set_option maxRecDepth 100000 in
theorem errors_cells (w : World) :
    Calls Tryz.prog 111 #[] w fun e w' => ∃ g, e = .returned (.slice (some ⟨g, 0, none⟩) 7 7) ∧ (∀ i s, errTexts[i]? = some s → w'.cell? ⟨g, i, none⟩ = some (.string s)) ∧ g < w'.heap.size ∧ Below w.heap.size w w' := by
  go_enter Tryz.func111, Tryz.ntmps111
  go_wp2
  go_ret
  refine ⟨_, rfl, fun i s h => ?_, by simp, by go_grown⟩
  rw [World.cell?_alloc_at _ _ _ _ rfl]
  match i, h with
  | 0, h => simp [errTexts] at h; subst h; rfl
  | 1, h => simp [errTexts] at h; subst h; rfl
  | 2, h => simp [errTexts] at h; subst h; rfl
  | 3, h => simp [errTexts] at h; subst h; rfl
  | 4, h => simp [errTexts] at h; subst h; rfl
  | 5, h => simp [errTexts] at h; subst h; rfl
  | 6, h => simp [errTexts] at h; subst h; rfl
set_option maxRecDepth 100000 in
theorem show_div (w : World) :
    Calls Tryz.prog 81 #[(V.fail 1).val] w fun e w' => e = .returned (.string ⟨#[35, 68, 73, 86, 47, 48, 33]⟩) ∧ Below w.heap.size w w' := by
  have HF := Lib.hid fun w => failed_any (.fail 1) w
  simp only [V.val, V.failed] at HF ⊢
  go_enter Tryz.func81, Tryz.ntmps81
  go_wp2_with (first | (go_at_call 91; refine (HF.out _).mono ?_; rintro e w' ⟨rfl, rfl⟩) | (go_at_call 111; fail))
  go_at_call 111
  refine (errors_cells _).mono ?_
  rintro e w1 ⟨g, rfl, hc, hg, hb⟩
  have hc0 := hc 0 _ rfl
  clear hc
  go_wp2
  go_ret
  exact ⟨rfl, hb⟩
end Go.Proofs.YtkobkeopajohiaaGreatDoor
