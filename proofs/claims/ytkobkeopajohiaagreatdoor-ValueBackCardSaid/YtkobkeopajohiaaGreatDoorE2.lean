/-
  PLAIN DATA AS A VALUE, WHATEVER THEY ARE.
-/
import Derived.Test.YtkobkeopajohiaaGreatDoorU4
import Derived.Test.YtkobkeopajohiaaGreatDoorU2
import Derived.Test.YtkobkeopajohiaaGreatDoorQ1
namespace Go.Proofs.YtkobkeopajohiaaGreatDoor
open Go.RowKit Go.Lib

set_option maxRecDepth 100000 in
theorem of_text_yes (m n : Int) (s : ByteArray) (w : World) (hs : Calls Tryz.prog 125 #[.string s] (w.alloc (.cells #[.int .i64 2, .int .i64 n, .string s] 41)) fun e w' => e = .returned (.tuple #[.int .i64 m, .bool true]) ∧ Below (w.alloc (.cells #[.int .i64 2, .int .i64 n, .string s] 41)).heap.size (w.alloc (.cells #[.int .i64 2, .int .i64 n, .string s] 41)) w') (hz : s.size ≤ 2000) :
    Calls Tryz.prog 60 #[.agg #[.int .i64 2, .int .i64 n, .string s]] w fun e w' => e = .returned (V.text s).val ∧ Below w.heap.size w w' := by
  have HS := Lib.hid hs
  clear hs
  go_enter Tryz.func60, Tryz.ntmps60
  go_wp2_with (first | (go_at_call 125; fail))
  go_at_call 125
  refine HS.out.mono ?_
  rintro e w1 ⟨rfl, hb⟩
  have hc0 : w1.cell? ⟨w.heap.size, 2, none⟩ = some (.string s) := (hb.cell (by simp)).trans (by rw [World.cell?_alloc_at _ _ _ _ rfl]; rfl)
  have hb' : Below w.heap.size w w1 := ((Below.refl _ _).alloc (Nat.le_refl _) _).trans (hb.mono (by simp))
  clear hb
  go_wp2
  go_ret
  exact ⟨rfl, hb'⟩

/-- is a text all signs? -/
def signsOk (s : ByteArray) : Bool := (signsFrom s s.size 0 0).2
/-- the value of plain data -/
def P.of (p : P) : V :=
  if p.kind = 1 then (if -999999999999999999 ≤ p.n ∧ p.n ≤ 999999999999999999 then .num p.n else .blank)
  else if p.kind = 2 then (if signsOk p.s = true ∧ p.s.size ≤ 2000 then .text p.s else .blank)
  else if p.kind = 3 then .bool (p.n == 1)
  else if p.kind = 4 then (if 1 ≤ p.n ∧ p.n ≤ 7 then .fail p.n else .blank)
  else .blank
theorem of_any (p : P) (w : World) (hT : Lib.Utf8Tabs 4 5 w) (h7 : 5 < w.heap.size) (hs : p.s.size < 9223372036854775807) :
    Calls Tryz.prog 60 #[p.val] w fun e w' => e = .returned p.of.val ∧ Below w.heap.size w w' := by
  obtain ⟨k, n, s⟩ := p
  unfold P.of P.val
  simp only at hs ⊢
  by_cases h1 : k = 1
  · subst h1
    rw [if_pos rfl]
    by_cases h : -999999999999999999 ≤ n ∧ n ≤ 999999999999999999
    · rw [if_pos h]; exact of_num n w s h
    · rw [if_neg h]; exact of_num_no n w s h
  rw [if_neg h1]
  by_cases h2 : k = 2
  · subst h2
    rw [if_pos rfl]
    have HS := signs_any s (w.alloc (.cells #[.int .i64 2, .int .i64 n, .string s] 41)) (tabs_below hT ((Below.refl _ _).alloc (Nat.le_refl _) _) h7) (by simp; omega) hs _ rfl
    by_cases h : signsOk s = true ∧ s.size ≤ 2000
    · rw [if_pos h]
      have e : (signsFrom s s.size 0 0).2 = true := h.1
      rw [e] at HS
      exact of_text_yes _ n s w HS h.2
    · rw [if_neg h]
      refine of_text_no _ n _ s w HS ?_
      cases e : (signsFrom s s.size 0 0).2
      · exact .inl rfl
      · exact .inr (by have : ¬ s.size ≤ 2000 := fun h2 => h ⟨e, h2⟩; omega)
  rw [if_neg h2]
  by_cases h3 : k = 3
  · subst h3
    rw [if_pos rfl]
    exact of_bool n _ w s rfl
  rw [if_neg h3]
  by_cases h4 : k = 4
  · subst h4
    rw [if_pos rfl]
    by_cases h : 1 ≤ n ∧ n ≤ 7
    · rw [if_pos h]; exact of_fail n w s h.1 h.2
    · rw [if_neg h]
      by_cases hn : n < 1
      · exact of_fail_low n w s hn
      · exact of_fail_high n w s (by omega)
  rw [if_neg h4]
  exact of_other k n w s (by simpa using h1) (by simpa using h2) (by simpa using h3) (by simpa using h4)
theorem of_short (p : P) (n : Nat) (h : p.s.size ≤ n) : p.of.short n := by
  unfold P.of
  repeat' split
  all_goals first | exact trivial | exact h
end Go.Proofs.YtkobkeopajohiaaGreatDoor
