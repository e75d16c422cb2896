/-
  CONTRACT of value.Typed: what it gives is a text that, typed, is the value.
-/
import Derived.Test.YtkobkeopajohiaaGreatDoorJ2
import Derived.Test.YtkobkeopajohiaaGreatDoorH2
namespace Go.Proofs.YtkobkeopajohiaaGreatDoor
open Go.RowKit Go.Lib

theorem dec_len (u k : Nat) (h : u < 10 ^ (k + 1)) : (Lib.decDigits u).length ≤ k + 1 := by
  induction k generalizing u with
  | zero => rw [Lib.decDigits, dif_pos (by simpa using h)]; simp
  | succ k ih =>
    rw [Lib.decDigits]
    by_cases h10 : u < 10
    · rw [dif_pos h10]; simp
    · rw [dif_neg h10, List.length_append, List.length_singleton]
      have := ih (u / 10) (by rw [Nat.pow_succ] at h; omega)
      omega
theorem text_len (a : Int) (h : -999999999999999999 ≤ a ∧ a ≤ 999999999999999999) : (Tab.text a).length ≤ 40 := by
  unfold Tab.text
  have h1 := dec_len (a.natAbs / 10000) 18 (by have : a.natAbs ≤ 999999999999999999 := by omega
                                               omega)
  have h2 : (Tab.frac (a.natAbs % 10000)).length ≤ 5 := by
    unfold Tab.frac
    split
    · simp
    · obtain ⟨l, hl, _, h4, _⟩ := Tab.frac_back (a.natAbs % 10000) (by assumption) (by omega)
      rw [hl, List.length_cons]; omega
  rw [List.length_append, List.length_append]
  split <;> simp <;> omega
/-- a value that is no failure, as a text -/
def V.str : V → ByteArray | .num n => ⟨(Tab.text n).toArray⟩ | .bool true => ⟨#[84, 82, 85, 69]⟩ | .bool false => ⟨#[70, 65, 76, 83, 69]⟩ | .text s => s | _ => ByteArray.empty
set_option maxRecDepth 100000 in
theorem asText_str (v : V) (w : World) (hP : GP w) (hg : v.good) :
    Calls Tryz.prog 28 #[v.val] w fun e w' => e = .returned (.tuple #[.string v.str, .int .i64 v.failed.1]) ∧ Below w.heap.size w w' := by
  rcases v with a | s | (_ | _) | a | _
  case num =>
    have HT := Lib.hid fun w hP => text_is a ⟨(Tab.text a).toArray⟩ w hP hg rfl
    clear hg
    simp only [V.val, V.failed, V.str]
    generalize (⟨(Tab.text a).toArray⟩ : ByteArray) = t at *
    go_enter Tryz.func28, Tryz.ntmps28
    go_wp2_with (first | (go_at_call 102; fail))
    go_at_call 102
    refine (HT.out _ hP).mono ?_
    rintro e w1 ⟨rfl, hb⟩
    go_wp2
    go_ret2
    exact ⟨rfl, hb⟩
  all_goals
    clear hg hP
    simp only [V.val, V.failed, V.str]
    go_enter Tryz.func28, Tryz.ntmps28
    go_wp2
    go_ret2
    exact ⟨rfl, by go_grown⟩
set_option maxRecDepth 100000 in
theorem show_str (v : V) (w : World) (hP : GP w) (hg : v.good) (hf : v.failed = (0, false)) :
    Calls Tryz.prog 81 #[v.val] w fun e w' => e = .returned (.string v.str) ∧ Below w.heap.size w w' := by
  have HF := Lib.hid fun w => hf ▸ failed_any v w
  have HT := Lib.hid fun w hP => asText_str v w hP hg
  clear hf hg
  rw [V.val_eq] at HF HT ⊢
  generalize v.ty = t at *
  generalize v.raw = x at *
  generalize v.str = s at *
  go_enter Tryz.func81, Tryz.ntmps81
  go_wp2_with (first | (go_at_call 91; refine (HF.out _).mono ?_; rintro e w' ⟨rfl, rfl⟩) | (go_at_call 28; fail))
  go_at_call 28
  refine (HT.out _ hP).mono ?_
  rintro e w1 ⟨rfl, hb⟩
  go_wp2
  go_ret
  exact ⟨rfl, hb⟩
set_option maxRecDepth 100000 in
theorem show_fail (i : Nat) (s : ByteArray) (h : errTexts[i]? = some s) (w : World) :
    Calls Tryz.prog 81 #[(V.fail ((i : Int) + 1)).val] w fun e w' => e = .returned (.string s) ∧ Below w.heap.size w w' := by
  have hi : i < 7 := (List.getElem?_eq_some_iff.1 h).1
  have HF := Lib.hid fun w => failed_any (.fail ((i : Int) + 1)) w
  have HS := Lib.hid h
  clear h
  simp only [V.val, V.failed] at HF ⊢
  go_enter Tryz.func81, Tryz.ntmps81
  go_wp2_with (first | (go_at_call 91; refine (HF.out _).mono ?_; rintro e w' ⟨rfl, rfl⟩) | (go_at_call 111; fail))
  go_at_call 111
  refine (errors_cells _).mono ?_
  rintro e w1 ⟨g, rfl, hc, hlt, hb⟩
  have hci := hc i _ HS.out
  clear hc
  go_wp2
  go_ret
  exact ⟨rfl, hb⟩
set_option maxRecDepth 100000 in
theorem typed_show (v : V) (s : ByteArray) (w : World) (hv : ∀ t, v ≠ .text t) (h : Calls Tryz.prog 81 #[v.val] w fun e w' => e = .returned (.string s) ∧ Below w.heap.size w w') :
    Calls Tryz.prog 35 #[v.val] w fun e w' => e = .returned (.string s) ∧ Below w.heap.size w w' := by
  have HS := Lib.hid h
  clear h
  cases v with
  | text t => exact absurd rfl (hv t)
  | num _ =>
    simp only [V.val] at HS ⊢
    go_enter Tryz.func35, Tryz.ntmps35
    go_wp2_with (first | (go_at_call 81; fail))
    go_at_call 81
    refine HS.out.mono ?_
    rintro e w1 ⟨rfl, hb⟩
    go_wp2
    go_ret
    exact ⟨rfl, hb⟩
  | bool _ =>
    simp only [V.val] at HS ⊢
    go_enter Tryz.func35, Tryz.ntmps35
    go_wp2_with (first | (go_at_call 81; fail))
    go_at_call 81
    refine HS.out.mono ?_
    rintro e w1 ⟨rfl, hb⟩
    go_wp2
    go_ret
    exact ⟨rfl, hb⟩
  | fail _ =>
    simp only [V.val] at HS ⊢
    go_enter Tryz.func35, Tryz.ntmps35
    go_wp2_with (first | (go_at_call 81; fail))
    go_at_call 81
    refine HS.out.mono ?_
    rintro e w1 ⟨rfl, hb⟩
    go_wp2
    go_ret
    exact ⟨rfl, hb⟩
  | blank =>
    simp only [V.val] at HS ⊢
    go_enter Tryz.func35, Tryz.ntmps35
    go_wp2_with (first | (go_at_call 81; fail))
    go_at_call 81
    refine HS.out.mono ?_
    rintro e w1 ⟨rfl, hb⟩
    go_wp2
    go_ret
    exact ⟨rfl, hb⟩
set_option maxRecDepth 100000 in
theorem typed_same (s : ByteArray) (w : World) (hG : GM w) (hs : s.size ≤ 4294967) (h : inputV s = .text s) :
    Calls Tryz.prog 35 #[(V.text s).val] w fun e w' => e = .returned (.string s) ∧ Below w.heap.size w w' := by
  have HI := Lib.hid fun w hM => h ▸ input_any s w hM hs
  clear h hs
  simp only [V.val] at HI ⊢
  go_enter Tryz.func35, Tryz.ntmps35
  go_wp2_with (first | (go_at_call 34; fail))
  go_at_call 34
  refine (HI.out _ hG).mono ?_
  rintro e w1 ⟨rfl, hb⟩
  go_wp2
  go_ret
  exact ⟨rfl, hb⟩
set_option maxHeartbeats 1600000 in
set_option maxRecDepth 100000 in
theorem typed_quoted (s : ByteArray) (w : World) (hG : GM w) (hs : s.size ≤ 4294967) (h : inputV s ≠ .text s) :
    Calls Tryz.prog 35 #[(V.text s).val] w fun e w' => e = .returned (.string (⟨#[39]⟩ ++ s)) ∧ Below w.heap.size w w' := by
  have HI := Lib.hid fun w hM => input_any s w hM hs
  generalize inputV s = v at *
  rcases v with a | y | (_ | _) | a | _
  case text =>
    have hy : (y.toList == s.toList) = false := by
      rw [beq_eq_false_iff_ne]
      intro e
      apply h
      rw [toList_data, toList_data] at e
      have : y = s := by
        apply ByteArray.ext
        exact Array.toList_inj.1 e
      rw [this]
    clear h
    simp only [V.val] at HI ⊢
    go_enter Tryz.func35, Tryz.ntmps35
    go_wp2_with (first | (go_at_call 34; fail))
    go_at_call 34
    refine (HI.out _ hG).mono ?_
    rintro e w1 ⟨rfl, hb⟩
    go_wp2
    go_ret
    exact ⟨rfl, hb⟩
  all_goals
    clear h
    simp only [V.val] at HI ⊢
    go_enter Tryz.func35, Tryz.ntmps35
    go_wp2_with (first | (go_at_call 34; fail))
    go_at_call 34
    refine (HI.out _ hG).mono ?_
    rintro e w1 ⟨rfl, hb⟩
    go_wp2
    go_ret
    exact ⟨rfl, hb⟩
/-- what is typed for a value is that value -/
theorem typed_back (v : V) (w : World) (hG : GM w) (hP : GP w) (hg : v.good) (hs : v.short 100000) :
    Calls Tryz.prog 35 #[v.val] w fun e w' => ∃ s, e = .returned (.string s) ∧ inputV s = v ∧ s.size ≤ 4294967 ∧ Below w.heap.size w w' := by
  cases v with
  | num n =>
    refine (typed_show (.num n) _ w (fun t h => by cases h) (show_str _ w hP hg rfl)).mono fun e w' ⟨h1, h2⟩ => ⟨_, h1, input_text_back n hg, ?_, h2⟩
    show (⟨(Tab.text n).toArray⟩ : ByteArray).size ≤ _
    rw [size_eq]
    exact Nat.le_trans (text_len n hg) (by decide)
  | text s =>
    have hs' : s.size ≤ 100000 := hs
    by_cases h : inputV s = .text s
    · exact (typed_same s w hG (by omega) h).mono fun e w' ⟨h1, h2⟩ => ⟨_, h1, h, by omega, h2⟩
    · refine (typed_quoted s w hG (by omega) h).mono fun e w' ⟨h1, h2⟩ => ⟨_, h1, input_quoted s, ?_, h2⟩
      rw [ByteArray.size_append]
      show 1 + s.size ≤ _
      omega
  | bool b =>
    refine (typed_show (.bool b) _ w (fun t h => by cases h) (show_str _ w hP hg rfl)).mono fun e w' ⟨h1, h2⟩ => ⟨_, h1, ?_, ?_, h2⟩
    · cases b
      · exact input_false
      · exact input_true
    · cases b <;> decide
  | fail n =>
    obtain ⟨h1, h7⟩ := hg
    obtain ⟨i, rfl⟩ : ∃ i : Nat, n = (i : Int) + 1 := ⟨(n - 1).toNat, by omega⟩
    obtain ⟨s, hs⟩ : ∃ s, errTexts[i]? = some s := ⟨errTexts[i]'(by show i < 7; omega), List.getElem?_eq_getElem _⟩
    refine (typed_show _ s w (fun t h => by cases h) (show_fail i s hs w)).mono fun e w' ⟨h1, h2⟩ => ⟨_, h1, input_errs i s hs, ?_, h2⟩
    have hm := List.mem_of_getElem? hs
    simp [errTexts] at hm
    rcases hm with rfl | rfl | rfl | rfl | rfl | rfl | rfl <;> decide
  | blank =>
    exact (typed_show .blank _ w (fun t h => by cases h) (show_str _ w hP hg rfl)).mono fun e w' ⟨h1, h2⟩ => ⟨_, h1, input_none, by decide, h2⟩
end Go.Proofs.YtkobkeopajohiaaGreatDoor
