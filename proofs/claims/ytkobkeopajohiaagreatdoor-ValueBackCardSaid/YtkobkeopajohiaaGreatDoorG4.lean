/-
  CONTRACT of the reference's Of: it tells what the program's own value tells.
-/
import Derived.Test.YtkobkeopajohiaaGreatDoorG3
import Derived.Test.YtkobkeopajohiaaGreatDoorE2
import Derived.Handy
namespace Go.Proofs.YtkobkeopajohiaaGreatDoor
open Go.RowKit Go.Lib

set_option maxHeartbeats 1600000 in
set_option maxRecDepth 100000 in
theorem refOf_num (n : Int) (s : ByteArray) (w : World) (h : -999999999999999999 ≤ n ∧ n ≤ 999999999999999999) :
    Calls Tryz.prog 80 #[.agg #[.int .i64 1, .int .i64 n, .string s]] w fun e w' => e = .returned (V.num n).tell ∧ Below w.heap.size w w' := by
  obtain ⟨h1, h2⟩ := h
  simp only [V.tell]
  go_enter Tryz.func80, Tryz.ntmps80
  go_wp2
  go_returns
  exact ⟨by rfl, by go_grown⟩
set_option maxHeartbeats 1600000 in
set_option maxRecDepth 100000 in
theorem refOf_num_no (n : Int) (s : ByteArray) (w : World) (h : n < -999999999999999999 ∨ 999999999999999999 < n) :
    Calls Tryz.prog 80 #[.agg #[.int .i64 1, .int .i64 n, .string s]] w fun e w' => e = .returned V.blank.tell ∧ Below w.heap.size w w' := by
  simp only [V.tell]
  rcases h with h | h
  all_goals
    go_enter Tryz.func80, Tryz.ntmps80
    go_wp2
    go_returns
    exact ⟨by rfl, by go_grown⟩
set_option maxHeartbeats 1600000 in
set_option maxRecDepth 100000 in
theorem refOf_bool (n : Int) (s : ByteArray) (w : World) (b : Bool) (h : (n == 1) = b) :
    Calls Tryz.prog 80 #[.agg #[.int .i64 3, .int .i64 n, .string s]] w fun e w' => e = .returned (V.bool b).tell ∧ Below w.heap.size w w' := by
  cases b <;> simp only [V.tell, if_true, Bool.false_eq_true, if_false]
  all_goals
    go_enter Tryz.func80, Tryz.ntmps80
    go_wp2
    go_returns
    exact ⟨by rfl, by go_grown⟩
set_option maxHeartbeats 1600000 in
set_option maxRecDepth 100000 in
theorem refOf_fail (n : Int) (s : ByteArray) (w : World) (h1 : 1 ≤ n) (h2 : n ≤ 7) :
    Calls Tryz.prog 80 #[.agg #[.int .i64 4, .int .i64 n, .string s]] w fun e w' => e = .returned (V.fail n).tell ∧ Below w.heap.size w w' := by
  simp only [V.tell]
  go_enter Tryz.func80, Tryz.ntmps80
  go_wp2
  go_returns
  exact ⟨by rfl, by go_grown⟩
set_option maxHeartbeats 1600000 in
set_option maxRecDepth 100000 in
theorem refOf_fail_no (n : Int) (s : ByteArray) (w : World) (h : n < 1 ∨ 7 < n) :
    Calls Tryz.prog 80 #[.agg #[.int .i64 4, .int .i64 n, .string s]] w fun e w' => e = .returned V.blank.tell ∧ Below w.heap.size w w' := by
  simp only [V.tell]
  rcases h with h | h
  all_goals
    go_enter Tryz.func80, Tryz.ntmps80
    go_wp2
    go_returns
    exact ⟨by rfl, by go_grown⟩
set_option maxHeartbeats 1600000 in
set_option maxRecDepth 100000 in
theorem refOf_other (k n : Int) (s : ByteArray) (w : World) (h1 : (k == 1) = false) (h2 : (k == 2) = false) (h3 : (k == 3) = false) (h4 : (k == 4) = false) :
    Calls Tryz.prog 80 #[.agg #[.int .i64 k, .int .i64 n, .string s]] w fun e w' => e = .returned V.blank.tell ∧ Below w.heap.size w w' := by
  simp only [V.tell]
  go_enter Tryz.func80, Tryz.ntmps80
  go_wp2
  go_returns
  exact ⟨by rfl, by go_grown⟩
set_option maxHeartbeats 1600000 in
set_option maxRecDepth 100000 in
theorem refOf_text (m n : Int) (ok : Bool) (s : ByteArray) (w : World) (hs : ∀ w, Calls Tryz.prog 137 #[.string s] w fun e w' => e = .returned (.tuple #[.int .i64 m, .bool ok]) ∧ w = w') (v : V) (hv : (if ok = true ∧ s.size ≤ 2000 then V.text s else V.blank) = v) :
    Calls Tryz.prog 80 #[.agg #[.int .i64 2, .int .i64 n, .string s]] w fun e w' => e = .returned v.tell ∧ Below w.heap.size w w' := by
  have HS := Lib.hid hs
  clear hs
  by_cases h : ok = true ∧ s.size ≤ 2000
  · rw [if_pos h] at hv
    subst hv
    obtain ⟨rfl, hz⟩ := h
    simp only [V.tell]
    go_enter Tryz.func80, Tryz.ntmps80
    go_wp2_with (first | (go_at_call 137; fail))
    go_at_call 137
    refine (HS.out _).mono ?_
    rintro e w' ⟨rfl, rfl⟩
    go_wp2
    go_returns
    exact ⟨by rfl, by go_grown⟩
  · rw [if_neg h] at hv
    subst hv
    have key : ok = false ∨ (ok = true ∧ 2000 < s.size) := by
      cases ok
      · exact .inl rfl
      · exact .inr ⟨rfl, by have : ¬ s.size ≤ 2000 := fun h2 => h ⟨rfl, h2⟩; omega⟩
    clear h
    simp only [V.tell]
    rcases key with rfl | ⟨rfl, hz⟩
    all_goals
      go_enter Tryz.func80, Tryz.ntmps80
      go_wp2_with (first | (go_at_call 137; fail))
      go_at_call 137
      refine (HS.out _).mono ?_
      rintro e w' ⟨rfl, rfl⟩
      go_wp2
      go_returns
      exact ⟨by rfl, by go_grown⟩
theorem refOf_any (p : P) (w : World) (hs : p.s.size ≤ 9223372036854775800) :
    Calls Tryz.prog 80 #[p.val] w fun e w' => e = .returned p.of.tell ∧ Below w.heap.size w w' := by
  obtain ⟨k, n, s⟩ := p
  unfold P.of P.val
  simp only at hs ⊢
  by_cases h1 : k = 1
  · subst h1
    rw [if_pos rfl]
    by_cases h : -999999999999999999 ≤ n ∧ n ≤ 999999999999999999
    · rw [if_pos h]; exact refOf_num n s w h
    · rw [if_neg h]; exact refOf_num_no n s w (by omega)
  rw [if_neg h1]
  by_cases h2 : k = 2
  · subst h2
    rw [if_pos rfl]
    exact refOf_text _ n _ s w (fun w => refSigns_any s w hs _ rfl) _ rfl
  rw [if_neg h2]
  by_cases h3 : k = 3
  · subst h3
    rw [if_pos rfl]
    exact refOf_bool n s w _ rfl
  rw [if_neg h3]
  by_cases h4 : k = 4
  · subst h4
    rw [if_pos rfl]
    by_cases h : 1 ≤ n ∧ n ≤ 7
    · rw [if_pos h]; exact refOf_fail n s w h.1 h.2
    · rw [if_neg h]; exact refOf_fail_no n s w (by omega)
  rw [if_neg h4]
  exact refOf_other k n s w (by simpa using h1) (by simpa using h2) (by simpa using h3) (by simpa using h4)
end Go.Proofs.YtkobkeopajohiaaGreatDoor
