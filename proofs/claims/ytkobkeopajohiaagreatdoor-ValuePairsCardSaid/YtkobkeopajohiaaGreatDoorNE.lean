/-
  CONTRACTS of value.Hold and of the reference's Hold, at any two values.
  CONTRACT of the reference's Hold, failures too.
-/
import Derived.Test.YtkobkeopajohiaaGreatDoorN14
namespace Go.Proofs.YtkobkeopajohiaaGreatDoor
open Go.RowKit Go.Lib

/-- = <> < <= > >= -/
def relB (op c : Int) : Bool :=
  if op = 0 then decide (c = 0) else if op = 1 then decide (c ≠ 0) else if op = 2 then decide (c < 0) else if op = 3 then decide (c ≤ 0) else if op = 4 then decide (0 < c) else decide (0 ≤ c)
def holdV (op : Int) (a b : V) : V := if a.failed.2 then .fail a.failed.1 else if b.failed.2 then .fail b.failed.1 else .bool (relB op (a.cmp b))
theorem cmpOf_cases (x y : V) : cmpOf x y = -1 ∨ cmpOf x y = 0 ∨ cmpOf x y = 1 := by
  unfold cmpOf
  split
  · split
    · rw [Tab.cmp_less]
      split
      · simp
      · split <;> simp
    · split
      · simp
      · split <;> simp
    · split
      · simp
      · split <;> simp
  · split <;> simp
theorem cmp_cases (a b : V) : a.cmp b = -1 ∨ a.cmp b = 0 ∨ a.cmp b = 1 := cmpOf_cases _ _
theorem refBool_any (p : Bool) (w : World) :
    Calls Tryz.prog 92 #[.bool p] w fun e w' => e = .returned (V.bool p).tell ∧ Below w.heap.size w w' := by
  cases p <;> simp only [V.tell, if_true, Bool.false_eq_true, if_false]
  all_goals
    go_enter Tryz.func92, Tryz.ntmps92
    go_wp2
    go_returns
    exact ⟨by rfl, by go_grown⟩
set_option maxHeartbeats 3200000 in
set_option maxRecDepth 100000 in
theorem hold_main (op c : Int) (p : Bool) (a b : V) (w : World) (fa : a.failed = (0, false)) (fb : b.failed = (0, false)) (hc : ∀ w, Calls Tryz.prog 21 #[a.val, b.val] w fun e w' => e = .returned (.int .i64 c) ∧ Below w.heap.size w w') (hcc : c = -1 ∨ c = 0 ∨ c = 1) (h0 : 0 ≤ op) (h5 : op ≤ 5) (hp : relB op c = p) :
    Calls Tryz.prog 23 #[.int .i64 op, a.val, b.val] w fun e w' => e = .returned (V.bool p).val ∧ Below w.heap.size w w' := by
  have HFa := Lib.hid fun w => failed_any a w
  have HFb := Lib.hid fun w => failed_any b w
  have HC := Lib.hid hc
  rw [fa] at HFa
  rw [fb] at HFb
  rw [V.val_eq a] at HFa HC ⊢
  rw [V.val_eq b] at HFb HC ⊢
  clear fa fb hc
  generalize a.ty = ta at *
  generalize a.raw = xa at *
  generalize b.ty = tb at *
  generalize b.raw = xb at *
  simp only [V.val]
  obtain rfl | rfl | rfl | rfl | rfl | rfl : op = 0 ∨ op = 1 ∨ op = 2 ∨ op = 3 ∨ op = 4 ∨ op = 5 := by omega
  all_goals
    clear h0 h5
    rcases hcc with rfl | rfl | rfl
    all_goals
      have hp := hp
      simp [relB] at hp
      subst hp
      go_enter Tryz.func23, Tryz.ntmps23
      go_wp2_with (first | (go_at_call 91; fail))
      go_at_call 91
      refine (HFa.out _).mono ?_
      rintro e w' ⟨rfl, rfl⟩
      go_wp2_with (first | (go_at_call 91; fail))
      go_at_call 91
      refine (HFb.out _).mono ?_
      rintro e w' ⟨rfl, rfl⟩
      go_wp2_with (first | (go_at_call 21; fail))
      go_at_call 21
      refine (HC.out _).mono ?_
      rintro e w1 ⟨rfl, hb⟩
      go_wp2
      go_ret
      exact ⟨rfl, hb⟩
theorem hold_any (op : Int) (a b : V) (w : World) (ha : a.short 4294967296) (hb : b.short 4294967296) (h0 : 0 ≤ op) (h5 : op ≤ 5) :
    Calls Tryz.prog 23 #[.int .i64 op, a.val, b.val] w fun e w' => e = .returned (holdV op a b).val ∧ Below w.heap.size w w' := by
  have key : ∀ a b : V, a.failed = (0, false) → b.failed = (0, false) → a.short 4294967296 → b.short 4294967296 → Calls Tryz.prog 23 #[.int .i64 op, a.val, b.val] w fun e w' => e = .returned (V.bool (relB op (a.cmp b))).val ∧ Below w.heap.size w w' :=
    fun a b fa fb ha hb => hold_main op (a.cmp b) _ a b w fa fb (fun w => cmp_any a b w ha hb) (cmp_cases a b) h0 h5 rfl
  unfold holdV
  rcases hf : a.failed with ⟨n, _ | _⟩
  · have fa : a.failed = (0, false) := by cases a <;> simp_all [V.failed]
    rcases hg : b.failed with ⟨m, _ | _⟩
    · have fb : b.failed = (0, false) := by cases b <;> simp_all [V.failed]
      simpa using key a b fa fb ha hb
    · obtain rfl : b = .fail m := by cases b <;> simp_all [V.failed]
      simpa using hold_second op m a w fa
  · obtain rfl : a = .fail n := by cases a <;> simp_all [V.failed]
    simpa using hold_first op n b w
set_option maxHeartbeats 6400000 in
set_option maxRecDepth 100000 in
theorem refHold_main (op c : Int) (p : Bool) (a b : V) (w : World) (fa : a.failed = (0, false)) (fb : b.failed = (0, false)) (hc : ∀ w, Calls Tryz.prog 22 #[a.tell, b.tell] w fun e w' => e = .returned (.int .i64 c) ∧ Below w.heap.size w w') (hcc : c = -1 ∨ c = 0 ∨ c = 1) (h0 : 0 ≤ op) (h5 : op ≤ 5) (hp : relB op c = p) :
    Calls Tryz.prog 24 #[.int .i64 op, a.tell, b.tell] w fun e w' => e = .returned (V.bool p).tell ∧ Below w.heap.size w w' := by
  have HC := Lib.hid hc
  have hka : ∃ k n s, a.tell = .agg #[.int .i64 k, .int .i64 n, .string s] ∧ (k == 4) = false := by cases a <;> first | exact ⟨_, _, _, rfl, rfl⟩ | (exfalso; simp [V.failed] at fa; done)
  have hkb : ∃ k n s, b.tell = .agg #[.int .i64 k, .int .i64 n, .string s] ∧ (k == 4) = false := by cases b <;> first | exact ⟨_, _, _, rfl, rfl⟩ | (exfalso; simp [V.failed] at fb; done)
  obtain ⟨ka, na, sa, ea, k4a⟩ := hka
  obtain ⟨kb, nb, sb, eb, k4b⟩ := hkb
  have HB := Lib.hid fun w => refBool_any p w
  obtain ⟨ya, yb, yc, ev⟩ := tell_form (V.bool p)
  rw [ev] at HB ⊢
  rw [ea, eb] at HC ⊢
  clear fa fb hc ea eb ev
  obtain rfl | rfl | rfl | rfl | rfl | rfl : op = 0 ∨ op = 1 ∨ op = 2 ∨ op = 3 ∨ op = 4 ∨ op = 5 := by omega
  all_goals
    clear h0 h5
    rcases hcc with rfl | rfl | rfl
    all_goals
      have hp := hp
      simp [relB] at hp
      subst hp
      go_enter Tryz.func24, Tryz.ntmps24
      go_wp2_with (first | (go_at_call 22; fail))
      go_at_call 22
      refine (HC.out _).mono ?_
      rintro e w1 ⟨rfl, hb1⟩
      obtain ⟨_, c1, c2, f2, hlt, _⟩ := boxes3 hb1
      go_wp2_with (first | (go_at_call 92; fail))
      clear c1 c2 f2
      go_at_call 92
      refine (HB.out _).mono ?_
      rintro e w2 ⟨rfl, hbx⟩
      have hb12 := hb1.trans (((Below.refl _ _).alloc (Nat.le_refl _) _).trans (hbx.mono (by simp)) |>.mono hb1.size)
      clear hbx hb1
      obtain ⟨_, c1, c2, f2, _, h0⟩ := boxes3 hb12
      go_wp2
      obtain ⟨e0, e1, e2⟩ := set_three w2 (w.heap.size + 1 + 1) (.int .i64 ya) (.int .i64 yb) (.string yc) (c2 0) (c2 1) (c2 2)
      have hbf := set_below2 h0 (1 + 1) (.int .i64 ya) (.int .i64 yb) (.string yc)
      rw [show w.heap.size + (1 + 1) = w.heap.size + 1 + 1 from rfl] at hbf
      generalize (((w2.setCell ⟨w.heap.size + 1 + 1, 0, none⟩ (.int .i64 ya)).setCell ⟨w.heap.size + 1 + 1, 1, none⟩ (.int .i64 yb)).setCell ⟨w.heap.size + 1 + 1, 2, none⟩ (.string yc)) = wf at *
      refine bodyPost_ret (v := .agg #[.int .i64 ya, .int .i64 yb, .string yc]) (by simp [results, Tryz.results24, go_sem, e0, e1, e2]) rfl ?_
      exact ⟨rfl, hbf⟩
end Go.Proofs.YtkobkeopajohiaaGreatDoor
namespace Go.Proofs.YtkobkeopajohiaaGreatDoor
open Go.RowKit Go.Lib

set_option maxHeartbeats 1600000 in
set_option maxRecDepth 100000 in
theorem refHold_first (op n : Int) (b : V) (w : World) :
    Calls Tryz.prog 24 #[.int .i64 op, (V.fail n).tell, b.tell] w fun e w' => e = .returned (V.fail n).tell ∧ Below w.heap.size w w' := by
  obtain ⟨kb, nb, sb, eb⟩ := tell_form b
  rw [eb]
  clear eb
  simp only [V.tell]
  go_enter Tryz.func24, Tryz.ntmps24
  go_wp2
  go_returns
  exact ⟨by rfl, by go_grown⟩
set_option maxHeartbeats 1600000 in
set_option maxRecDepth 100000 in
theorem refHold_second (op n : Int) (a : V) (w : World) (fa : a.failed = (0, false)) :
    Calls Tryz.prog 24 #[.int .i64 op, a.tell, (V.fail n).tell] w fun e w' => e = .returned (V.fail n).tell ∧ Below w.heap.size w w' := by
  have hka : ∃ k n s, a.tell = .agg #[.int .i64 k, .int .i64 n, .string s] ∧ (k == 4) = false := by cases a <;> first | exact ⟨_, _, _, rfl, rfl⟩ | (exfalso; simp [V.failed] at fa; done)
  obtain ⟨ka, na, sa, ea, k4a⟩ := hka
  rw [ea]
  clear ea fa
  simp only [V.tell]
  go_enter Tryz.func24, Tryz.ntmps24
  go_wp2
  go_returns
  exact ⟨by rfl, by go_grown⟩
theorem refHold_any (op : Int) (a b : V) (w : World) (ha : a.short 4294967296) (hb : b.short 4294967296) (h0 : 0 ≤ op) (h5 : op ≤ 5) :
    Calls Tryz.prog 24 #[.int .i64 op, a.tell, b.tell] w fun e w' => e = .returned (holdV op a b).tell ∧ Below w.heap.size w w' := by
  have key : ∀ a b : V, a.failed = (0, false) → b.failed = (0, false) → a.short 4294967296 → b.short 4294967296 → Calls Tryz.prog 24 #[.int .i64 op, a.tell, b.tell] w fun e w' => e = .returned (V.bool (relB op (a.cmp b))).tell ∧ Below w.heap.size w w' :=
    fun a b fa fb ha hb => refHold_main op (a.cmp b) _ a b w fa fb (fun w => refCompare_any a b w ha hb fa fb) (cmp_cases a b) h0 h5 rfl
  unfold holdV
  rcases hf : a.failed with ⟨n, _ | _⟩
  · have fa : a.failed = (0, false) := by cases a <;> simp_all [V.failed]
    rcases hg : b.failed with ⟨m, _ | _⟩
    · have fb : b.failed = (0, false) := by cases b <;> simp_all [V.failed]
      simpa using key a b fa fb ha hb
    · obtain rfl : b = .fail m := by cases b <;> simp_all [V.failed]
      simpa using refHold_second op m a w fa
  · obtain rfl : a = .fail n := by cases a <;> simp_all [V.failed]
    simpa using refHold_first op n b w
end Go.Proofs.YtkobkeopajohiaaGreatDoor
