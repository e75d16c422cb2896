/-
  CONTRACTS of value.Arith and of the reference's Arith, at any two values.
  CONTRACT of the reference's Arith, at any two values.
  CONTRACTS of the reference's Great and Join, and of value.Join.
-/
import Derived.Test.YtkobkeopajohiaaGreatDoorNC
import Derived.Test.YtkobkeopajohiaaGreatDoorRR
import Derived.Deep.DeepCutAuto
import Derived.Test.YtkobkeopajohiaaGreatDoorGG
namespace Go.Proofs.YtkobkeopajohiaaGreatDoor
open Go.RowKit Go.Lib

/-- two numbers added, and so on -/
def arithN (op x y : Int) : V :=
  if op = 0 then cnt (Tab.fit (x + y)) else if op = 1 then cnt (Tab.fit (x - y)) else if op = 2 then cnt (Tab.mulS x y)
  else if op = 3 then (if y = 0 then .fail 1 else cnt (Tab.divS x y)) else powerV x y
def arithV (op : Int) (a b : V) : V :=
  if a.asNum.2 ≠ 0 then .fail a.asNum.2 else if b.asNum.2 ≠ 0 then .fail b.asNum.2 else arithN op a.asNum.1 b.asNum.1
theorem below_of {w w' : World} (h : ∃ n, w' = w.drewN n) : Below w.heap.size w w' := by
  obtain ⟨n, rfl⟩ := h
  exact below_drewN (Below.refl _ _) n
/-- the ways of two numbers, each as a call of its own -/
theorem arithN_ways (op x y : Int) (h0 : 0 ≤ op) (h4 : op ≤ 4) (v : V) (h : arithN op x y = v) :
    (op = 0 ∧ cnt (Tab.fit (x + y)) = v) ∨ (op = 1 ∧ cnt (Tab.fit (x - y)) = v) ∨ (op = 2 ∧ cnt (Tab.mulS x y) = v) ∨ (op = 3 ∧ y = 0 ∧ V.fail 1 = v) ∨ (op = 3 ∧ y ≠ 0 ∧ cnt (Tab.divS x y) = v) ∨ (op = 4 ∧ powerV x y = v) := by
  unfold arithN at h
  obtain rfl | rfl | rfl | rfl | rfl : op = 0 ∨ op = 1 ∨ op = 2 ∨ op = 3 ∨ op = 4 := by omega
  · exact .inl ⟨rfl, by simpa using h⟩
  · exact .inr (.inl ⟨rfl, by simpa using h⟩)
  · exact .inr (.inr (.inl ⟨rfl, by simpa using h⟩))
  · by_cases hy : y = 0
    · exact .inr (.inr (.inr (.inl ⟨rfl, hy, by simpa [hy] using h⟩)))
    · exact .inr (.inr (.inr (.inr (.inl ⟨rfl, hy, by simpa [hy] using h⟩))))
  · exact .inr (.inr (.inr (.inr (.inr ⟨rfl, by simpa using h⟩))))

set_option maxHeartbeats 3200000 in
set_option maxRecDepth 100000 in
theorem arith_nums (op x y : Int) (a b v : V) (w : World) (hG : GM w) (ha : a.short 4294967) (hb : b.short 4294967) (hxa : a.asNum = (x, 0)) (hyb : b.asNum = (y, 0)) (hx : -999999999999999999 ≤ x ∧ x ≤ 999999999999999999) (hy : -999999999999999999 ≤ y ∧ y ≤ 999999999999999999) (h0 : 0 ≤ op) (h4 : op ≤ 4) (h : arithN op x y = v) :
    Calls Tryz.prog 25 #[.int .i64 op, a.val, b.val] w fun e w' => e = .returned v.val ∧ Below w.heap.size w w' := by
  have HA := Lib.hid fun w hM => asNumber_is a x 0 w hM ha hxa
  have HB := Lib.hid fun w hM => asNumber_is b y 0 w hM hb hyb
  rw [V.val_eq] at HA HB
  rw [V.val_eq a, V.val_eq b]
  clear ha hb hxa hyb
  generalize a.ty = ta at *
  generalize a.raw = xa at *
  generalize b.ty = tb at *
  generalize b.raw = xb at *
  have hxy : -2000000000000000000 ≤ x + y ∧ x + y ≤ 2000000000000000000 := by omega
  have hxy2 : -2000000000000000000 ≤ x - y ∧ x - y ≤ 2000000000000000000 := by omega
  have hw := arithN_ways op x y h0 h4 v h
  clear h
  rcases hw with ⟨rfl, h⟩ | ⟨rfl, h⟩ | ⟨rfl, h⟩ | ⟨rfl, rfl, h⟩ | ⟨rfl, hy0, h⟩ | ⟨rfl, h⟩
  · obtain ⟨n, ok, hr⟩ : ∃ n ok, Tab.fit (x + y) = (n, ok) := ⟨_, _, rfl⟩
    rw [hr] at h
    have HO := Lib.hid fun w => add_is x y n ok w hxy hr
    have HC := Lib.hid fun w => counted_v n ok v w h
    clear hr h hxy hxy2 h0 h4
    rw [V.val_eq] at HC ⊢
    generalize v.ty = tv at *
    generalize v.raw = xv at *
    go_enter Tryz.func25, Tryz.ntmps25
    go_wp2_with (first | (go_at_call 27; fail))
    go_at_call 27
    refine (HA.out _ hG).mono ?_
    rintro e w1 ⟨rfl, hb1⟩
    have hM1 := hG.below hb1
    go_wp2_with (first | (go_at_call 27; fail))
    go_at_call 27
    refine (HB.out _ hM1).mono ?_
    rintro e w2 ⟨rfl, hb2⟩
    have hb12 := hb1.trans (hb2.mono hb1.size)
    clear hb1 hb2 hM1
    go_wp2_with (first
      | (go_at_call 93; refine (HO.out _).mono ?_; rintro e w' ⟨rfl, rfl⟩)
      | (go_at_call 43; refine (HC.out _).mono ?_; rintro e w' ⟨rfl, rfl⟩))
    go_ret
    exact ⟨rfl, hb12⟩
  · obtain ⟨n, ok, hr⟩ : ∃ n ok, Tab.fit (x - y) = (n, ok) := ⟨_, _, rfl⟩
    rw [hr] at h
    have HO := Lib.hid fun w => sub_is x y n ok w hxy2 hr
    have HC := Lib.hid fun w => counted_v n ok v w h
    clear hr h hxy hxy2 h0 h4
    rw [V.val_eq] at HC ⊢
    generalize v.ty = tv at *
    generalize v.raw = xv at *
    go_enter Tryz.func25, Tryz.ntmps25
    go_wp2_with (first | (go_at_call 27; fail))
    go_at_call 27
    refine (HA.out _ hG).mono ?_
    rintro e w1 ⟨rfl, hb1⟩
    have hM1 := hG.below hb1
    go_wp2_with (first | (go_at_call 27; fail))
    go_at_call 27
    refine (HB.out _ hM1).mono ?_
    rintro e w2 ⟨rfl, hb2⟩
    have hb12 := hb1.trans (hb2.mono hb1.size)
    clear hb1 hb2 hM1
    go_wp2_with (first
      | (go_at_call 94; refine (HO.out _).mono ?_; rintro e w' ⟨rfl, rfl⟩)
      | (go_at_call 43; refine (HC.out _).mono ?_; rintro e w' ⟨rfl, rfl⟩))
    go_ret
    exact ⟨rfl, hb12⟩
  · obtain ⟨n, ok, hr⟩ : ∃ n ok, Tab.mulS x y = (n, ok) := ⟨_, _, rfl⟩
    rw [hr] at h
    have HO := Lib.hid fun w => (mul_any x y n ok w hx hy hr).mono fun e w' hh => And.intro hh.1 (below_of hh.2)
    have HC := Lib.hid fun w => counted_v n ok v w h
    clear hr h hxy hxy2 h0 h4
    rw [V.val_eq] at HC ⊢
    generalize v.ty = tv at *
    generalize v.raw = xv at *
    go_enter Tryz.func25, Tryz.ntmps25
    go_wp2_with (first | (go_at_call 27; fail))
    go_at_call 27
    refine (HA.out _ hG).mono ?_
    rintro e w1 ⟨rfl, hb1⟩
    have hM1 := hG.below hb1
    go_wp2_with (first | (go_at_call 27; fail))
    go_at_call 27
    refine (HB.out _ hM1).mono ?_
    rintro e w2 ⟨rfl, hb2⟩
    have hb12 := hb1.trans (hb2.mono hb1.size)
    clear hb1 hb2 hM1
    go_wp2_with (first | (go_at_call 95; fail))
    go_at_call 95
    refine (HO.out _).mono ?_
    rintro e w3 ⟨rfl, hb3⟩
    have hb13 := hb12.trans (hb3.mono hb12.size)
    go_wp2_with (first
      | (go_at_call 43; refine (HC.out _).mono ?_; rintro e w' ⟨rfl, rfl⟩))
    go_ret
    exact ⟨rfl, hb13⟩
  · subst h
    simp only [V.val]
    clear hxy hxy2 h0 h4 hx hy
    go_enter Tryz.func25, Tryz.ntmps25
    go_wp2_with (first | (go_at_call 27; fail))
    go_at_call 27
    refine (HA.out _ hG).mono ?_
    rintro e w1 ⟨rfl, hb1⟩
    have hM1 := hG.below hb1
    go_wp2_with (first | (go_at_call 27; fail))
    go_at_call 27
    refine (HB.out _ hM1).mono ?_
    rintro e w2 ⟨rfl, hb2⟩
    have hb12 := hb1.trans (hb2.mono hb1.size)
    clear hb1 hb2 hM1
    go_wp2
    go_ret
    exact ⟨rfl, hb12⟩
  · obtain ⟨n, ok, hr⟩ : ∃ n ok, Tab.divS x y = (n, ok) := ⟨_, _, rfl⟩
    rw [hr] at h
    have HO := Lib.hid fun w => (div_any x y n ok w hx hy hr).mono fun e w' hh => And.intro hh.1 (below_of hh.2)
    have HC := Lib.hid fun w => counted_v n ok v w h
    have hyz : (y == 0) = false := by rw [beq_eq_false_iff_ne]; exact hy0
    clear hr h hxy hxy2 h0 h4 hy0
    rw [V.val_eq] at HC ⊢
    generalize v.ty = tv at *
    generalize v.raw = xv at *
    go_enter Tryz.func25, Tryz.ntmps25
    go_wp2_with (first | (go_at_call 27; fail))
    go_at_call 27
    refine (HA.out _ hG).mono ?_
    rintro e w1 ⟨rfl, hb1⟩
    have hM1 := hG.below hb1
    go_wp2_with (first | (go_at_call 27; fail))
    go_at_call 27
    refine (HB.out _ hM1).mono ?_
    rintro e w2 ⟨rfl, hb2⟩
    have hb12 := hb1.trans (hb2.mono hb1.size)
    clear hb1 hb2 hM1
    go_wp2_with (first | (go_at_call 96; fail))
    go_at_call 96
    refine (HO.out _).mono ?_
    rintro e w3 ⟨rfl, hb3⟩
    have hb13 := hb12.trans (hb3.mono hb12.size)
    go_wp2_with (first
      | (go_at_call 43; refine (HC.out _).mono ?_; rintro e w' ⟨rfl, rfl⟩))
    go_ret
    exact ⟨rfl, hb13⟩
  · have HO := Lib.hid fun w => (power_any x y v w hx hy h).mono fun e w' hh => And.intro hh.1 (below_of hh.2)
    clear h hxy hxy2 h0 h4
    rw [V.val_eq] at HO ⊢
    generalize v.ty = tv at *
    generalize v.raw = xv at *
    go_enter Tryz.func25, Tryz.ntmps25
    go_wp2_with (first | (go_at_call 27; fail))
    go_at_call 27
    refine (HA.out _ hG).mono ?_
    rintro e w1 ⟨rfl, hb1⟩
    have hM1 := hG.below hb1
    go_wp2_with (first | (go_at_call 27; fail))
    go_at_call 27
    refine (HB.out _ hM1).mono ?_
    rintro e w2 ⟨rfl, hb2⟩
    have hb12 := hb1.trans (hb2.mono hb1.size)
    clear hb1 hb2 hM1
    go_wp2_with (first | (go_at_call 54; fail))
    go_at_call 54
    refine (HO.out _).mono ?_
    rintro e w3 ⟨rfl, hb3⟩
    have hb13 := hb12.trans (hb3.mono hb12.size)
    go_wp2
    go_ret
    exact ⟨rfl, hb13⟩
set_option maxHeartbeats 3200000 in
set_option maxRecDepth 100000 in
theorem arith_first (op x f : Int) (a b : V) (w : World) (hG : GM w) (ha : a.short 4294967) (hxa : a.asNum = (x, f)) (hf : f ≠ 0) :
    Calls Tryz.prog 25 #[.int .i64 op, a.val, b.val] w fun e w' => e = .returned (V.fail f).val ∧ Below w.heap.size w w' := by
  have HA := Lib.hid fun w hM => asNumber_is a x f w hM ha hxa
  have hf0 : (f == 0) = false := by rw [beq_eq_false_iff_ne]; exact hf
  rw [V.val_eq] at HA
  rw [V.val_eq a, V.val_eq b]
  clear ha hxa
  generalize a.ty = ta at *
  generalize a.raw = xa at *
  generalize b.ty = tb at *
  generalize b.raw = xb at *
  simp only [V.val]
  go_enter Tryz.func25, Tryz.ntmps25
  go_wp2_with (first | (go_at_call 27; fail))
  go_at_call 27
  refine (HA.out _ hG).mono ?_
  rintro e w1 ⟨rfl, hb1⟩
  go_wp2
  go_ret
  exact ⟨rfl, hb1⟩
set_option maxHeartbeats 3200000 in
set_option maxRecDepth 100000 in
theorem arith_second (op x y f : Int) (a b : V) (w : World) (hG : GM w) (ha : a.short 4294967) (hb : b.short 4294967) (hxa : a.asNum = (x, 0)) (hyb : b.asNum = (y, f)) (hf : f ≠ 0) :
    Calls Tryz.prog 25 #[.int .i64 op, a.val, b.val] w fun e w' => e = .returned (V.fail f).val ∧ Below w.heap.size w w' := by
  have HA := Lib.hid fun w hM => asNumber_is a x 0 w hM ha hxa
  have HB := Lib.hid fun w hM => asNumber_is b y f w hM hb hyb
  have hf0 : (f == 0) = false := by rw [beq_eq_false_iff_ne]; exact hf
  rw [V.val_eq] at HA HB
  rw [V.val_eq a, V.val_eq b]
  clear ha hb hxa hyb
  generalize a.ty = ta at *
  generalize a.raw = xa at *
  generalize b.ty = tb at *
  generalize b.raw = xb at *
  simp only [V.val]
  go_enter Tryz.func25, Tryz.ntmps25
  go_wp2_with (first | (go_at_call 27; fail))
  go_at_call 27
  refine (HA.out _ hG).mono ?_
  rintro e w1 ⟨rfl, hb1⟩
  have hM1 := hG.below hb1
  go_wp2_with (first | (go_at_call 27; fail))
  go_at_call 27
  refine (HB.out _ hM1).mono ?_
  rintro e w2 ⟨rfl, hb2⟩
  have hb12 := hb1.trans (hb2.mono hb1.size)
  clear hb1 hb2 hM1
  go_wp2
  go_ret
  exact ⟨rfl, hb12⟩
theorem arith_any (op : Int) (a b : V) (w : World) (hG : GM w) (ha : a.short 4294967) (hb : b.short 4294967) (ga : a.good) (gb : b.good) (h0 : 0 ≤ op) (h4 : op ≤ 4) :
    Calls Tryz.prog 25 #[.int .i64 op, a.val, b.val] w fun e w' => e = .returned (arithV op a b).val ∧ Below w.heap.size w w' := by
  have b1 := asNum_bd a ga
  have b2 := asNum_bd b gb
  unfold arithV
  obtain ⟨x, f, hx⟩ : ∃ x f, a.asNum = (x, f) := ⟨_, _, rfl⟩
  obtain ⟨y, g, hy⟩ : ∃ x f, b.asNum = (x, f) := ⟨_, _, rfl⟩
  rw [hx] at b1 ⊢
  rw [hy] at b2 ⊢
  by_cases hf : f = 0
  · subst hf
    by_cases hg : g = 0
    · subst hg
      simp only [ne_eq, not_true_eq_false, if_false]
      exact arith_nums op x y a b _ w hG ha hb hx hy b1 b2 h0 h4 rfl
    · simp only [ne_eq, not_true_eq_false, if_false, hg, not_false_eq_true, if_true]
      exact arith_second op x y g a b w hG ha hb hx hy hg
  · simp only [ne_eq, hf, not_false_eq_true, if_true]
    exact arith_first op x f a b w hG ha hx hf
end Go.Proofs.YtkobkeopajohiaaGreatDoor
namespace Go.Proofs.YtkobkeopajohiaaGreatDoor
open Go.RowKit Go.Lib

/-- three blocks of the call's own, behind what made memory -/
theorem boxes3 {w w1 : World} {A B O : Array Value} {TA TB TO : TypeId} (hb : Below (((w.alloc (.cells A TA)).alloc (.cells B TB)).alloc (.cells O TO)).heap.size (((w.alloc (.cells A TA)).alloc (.cells B TB)).alloc (.cells O TO)) w1) :
    (∀ j, w1.cell? ⟨w.heap.size, j, none⟩ = A[j]?) ∧ (∀ j, w1.cell? ⟨w.heap.size + 1, j, none⟩ = B[j]?) ∧ (∀ j, w1.cell? ⟨w.heap.size + 1 + 1, j, none⟩ = O[j]?) ∧ (∀ j, w1.frozen? ⟨w.heap.size + 1 + 1, j, none⟩ = false) ∧ w.heap.size + 1 + 1 < w1.heap.size ∧ Below w.heap.size w w1 := by
  have s1 : (w.alloc (.cells A TA)).heap.size = w.heap.size + 1 := by simp
  have s2 : ((w.alloc (.cells A TA)).alloc (.cells B TB)).heap.size = w.heap.size + 1 + 1 := by simp
  have s3 : (((w.alloc (.cells A TA)).alloc (.cells B TB)).alloc (.cells O TO)).heap.size = w.heap.size + 1 + 1 + 1 := by simp
  refine ⟨fun j => ?_, fun j => ?_, fun j => ?_, fun j => ?_, ?_, (((((Below.refl _ _).alloc (Nat.le_refl _) _).alloc (by rw [s1]; omega) _).alloc (by rw [s2]; omega) _)).trans (hb.mono (by rw [s3]; omega))⟩
  · rw [hb.cell (by rw [s3]; show w.heap.size < _; omega), World.cell?_alloc_past _ _ _ (by rw [s2]; omega), World.cell?_alloc_past _ _ _ (by rw [s1]; omega), World.cell?_alloc_at _ _ _ _ rfl]
  · rw [hb.cell (by rw [s3]; show w.heap.size + 1 < _; omega), World.cell?_alloc_past _ _ _ (by rw [s2]; omega), World.cell?_alloc_at _ _ _ _ s1.symm]
  · rw [hb.cell (by rw [s3]; show w.heap.size + 1 + 1 < _; omega), World.cell?_alloc_at _ _ _ _ s2.symm]
  · rw [hb.frozen (by rw [s3]; show w.heap.size + 1 + 1 < _; omega), World.frozen?_alloc_at _ _ _ _ s2.symm]
  · have := hb.size; rw [s3] at this; omega
theorem set_below2 {w w1 : World} (h : Below w.heap.size w w1) (k : Nat) (x y z : Value) : Below w.heap.size w (((w1.setCell ⟨w.heap.size + k, 0, none⟩ x).setCell ⟨w.heap.size + k, 1, none⟩ y).setCell ⟨w.heap.size + k, 2, none⟩ z) :=
  ((h.setCell (by show w.heap.size ≤ w.heap.size + k; omega) _).setCell (by show w.heap.size ≤ w.heap.size + k; omega) _).setCell (by show w.heap.size ≤ w.heap.size + k; omega) _
theorem refAdd_any (a b n : Int) (ok : Bool) (w : World) (h : -2000000000000000000 ≤ a + b ∧ a + b ≤ 2000000000000000000) (hf : Tab.fit (a + b) = (n, ok)) :
    Calls Tryz.prog 97 #[.int .i64 a, .int .i64 b] w fun e w' => e = .returned (.tuple #[.int .i64 n, .bool ok]) ∧ w = w' := by
  have HF := Lib.hid fun w => hf ▸ fit_any (a + b) w
  clear hf
  go_enter Tryz.func97, Tryz.ntmps97
  go_wp2_with (first | (go_at_call 128; refine (HF.out _).mono ?_; rintro e w' ⟨rfl, rfl⟩))
  go_ret2
  exact ⟨rfl, rfl⟩
set_option maxHeartbeats 3200000 in
set_option maxRecDepth 100000 in
theorem refArith_first (op x f : Int) (a b : V) (w : World) (ha : a.short 4294967) (hxa : a.asNum = (x, f)) (hf : f ≠ 0) :
    Calls Tryz.prog 26 #[.int .i64 op, a.tell, b.tell] w fun e w' => e = .returned (V.fail f).tell ∧ Below w.heap.size w w' := by
  obtain ⟨ka, na, sa, ea⟩ := tell_form a
  obtain ⟨kb, nb, sb, eb⟩ := tell_form b
  have HA := Lib.hid fun w => refAsNumber_any a x f w ha hxa
  rw [ea] at HA
  rw [ea, eb]
  have hf0 : (f == 0) = false := by rw [beq_eq_false_iff_ne]; exact hf
  have HF := Lib.hid fun w => refFail_any f w
  simp only [V.tell] at HF ⊢
  clear ha hxa ea eb
  go_enter Tryz.func26, Tryz.ntmps26
  go_wp2_with (first | (go_at_call 62; fail))
  go_at_call 62
  refine (HA.out _).mono ?_
  rintro e w1 ⟨rfl, hb1⟩
  obtain ⟨_, c1, c2, f2, _, _⟩ := boxes3 hb1
  go_wp2_with (first | (go_at_call 61; fail))
  clear c1 c2 f2
  go_at_call 61
  refine (HF.out _).mono ?_
  rintro e w2 ⟨rfl, hbx⟩
  have hb12 := hb1.trans (hbx.mono hb1.size)
  clear hbx hb1
  obtain ⟨_, c1, c2, f2, _, h0⟩ := boxes3 hb12
  go_wp2
  obtain ⟨e0, e1, e2⟩ := set_three w2 (w.heap.size + 1 + 1) (.int .i64 4) (.int .i64 f) (.string ByteArray.empty) (c2 0) (c2 1) (c2 2)
  have hbf := set_below2 h0 (1 + 1) (.int .i64 4) (.int .i64 f) (.string ByteArray.empty)
  rw [show w.heap.size + (1 + 1) = w.heap.size + 1 + 1 from rfl] at hbf
  generalize (((w2.setCell ⟨w.heap.size + 1 + 1, 0, none⟩ (.int .i64 4)).setCell ⟨w.heap.size + 1 + 1, 1, none⟩ (.int .i64 f)).setCell ⟨w.heap.size + 1 + 1, 2, none⟩ (.string ByteArray.empty)) = wf at *
  refine bodyPost_ret (v := .agg #[.int .i64 4, .int .i64 f, .string ByteArray.empty]) (by simp [results, Tryz.results26, go_sem, e0, e1, e2]) rfl ?_
  exact ⟨rfl, hbf⟩
set_option maxHeartbeats 3200000 in
set_option maxRecDepth 100000 in
theorem refArith_second (op x y f : Int) (a b : V) (w : World) (ha : a.short 4294967) (hb : b.short 4294967) (hxa : a.asNum = (x, 0)) (hyb : b.asNum = (y, f)) (hf : f ≠ 0) :
    Calls Tryz.prog 26 #[.int .i64 op, a.tell, b.tell] w fun e w' => e = .returned (V.fail f).tell ∧ Below w.heap.size w w' := by
  obtain ⟨ka, na, sa, ea⟩ := tell_form a
  obtain ⟨kb, nb, sb, eb⟩ := tell_form b
  have HA := Lib.hid fun w => refAsNumber_any a x 0 w ha hxa
  have HB := Lib.hid fun w => refAsNumber_any b y f w hb hyb
  rw [ea] at HA
  rw [ea, eb]
  rw [eb] at HB
  have hf0 : (f == 0) = false := by rw [beq_eq_false_iff_ne]; exact hf
  have HF := Lib.hid fun w => refFail_any f w
  simp only [V.tell] at HF ⊢
  clear ha hb hxa hyb ea eb
  go_enter Tryz.func26, Tryz.ntmps26
  go_wp2_with (first | (go_at_call 62; fail))
  go_at_call 62
  refine (HA.out _).mono ?_
  rintro e w1 ⟨rfl, hb1⟩
  obtain ⟨_, c1, c2, f2, _, _⟩ := boxes3 hb1
  go_wp2_with (first | (go_at_call 62; fail))
  clear c1 c2 f2
  go_at_call 62
  refine (HB.out _).mono ?_
  rintro e w2 ⟨rfl, hb2⟩
  have hb12 := hb1.trans (hb2.mono hb1.size)
  clear hb1 hb2
  obtain ⟨_, c1, c2, f2, _, _⟩ := boxes3 hb12
  go_wp2_with (first | (go_at_call 61; fail))
  clear c1 c2 f2
  go_at_call 61
  refine (HF.out _).mono ?_
  rintro e w3 ⟨rfl, hbx⟩
  have hb13 := hb12.trans (hbx.mono hb12.size)
  clear hbx hb12
  obtain ⟨_, c1, c2, f2, _, h0⟩ := boxes3 hb13
  go_wp2
  obtain ⟨e0, e1, e2⟩ := set_three w3 (w.heap.size + 1 + 1) (.int .i64 4) (.int .i64 f) (.string ByteArray.empty) (c2 0) (c2 1) (c2 2)
  have hbf := set_below2 h0 (1 + 1) (.int .i64 4) (.int .i64 f) (.string ByteArray.empty)
  rw [show w.heap.size + (1 + 1) = w.heap.size + 1 + 1 from rfl] at hbf
  generalize (((w3.setCell ⟨w.heap.size + 1 + 1, 0, none⟩ (.int .i64 4)).setCell ⟨w.heap.size + 1 + 1, 1, none⟩ (.int .i64 f)).setCell ⟨w.heap.size + 1 + 1, 2, none⟩ (.string ByteArray.empty)) = wf at *
  refine bodyPost_ret (v := .agg #[.int .i64 4, .int .i64 f, .string ByteArray.empty]) (by simp [results, Tryz.results26, go_sem, e0, e1, e2]) rfl ?_
  exact ⟨rfl, hbf⟩
set_option maxHeartbeats 3200000 in
set_option maxRecDepth 100000 in
theorem refArith_nums (op x y : Int) (a b v : V) (w : World) (ha : a.short 4294967) (hb : b.short 4294967) (hxa : a.asNum = (x, 0)) (hyb : b.asNum = (y, 0)) (hx : -999999999999999999 ≤ x ∧ x ≤ 999999999999999999) (hy : -999999999999999999 ≤ y ∧ y ≤ 999999999999999999) (h0 : 0 ≤ op) (h4 : op ≤ 4) (h : arithN op x y = v) :
    Calls Tryz.prog 26 #[.int .i64 op, a.tell, b.tell] w fun e w' => e = .returned v.tell ∧ Below w.heap.size w w' := by
  obtain ⟨ka, na, sa, ea⟩ := tell_form a
  obtain ⟨kb, nb, sb, eb⟩ := tell_form b
  have HA := Lib.hid fun w => refAsNumber_any a x 0 w ha hxa
  have HB := Lib.hid fun w => refAsNumber_any b y 0 w hb hyb
  rw [ea] at HA
  rw [ea, eb]
  rw [eb] at HB
  have hxy : -2000000000000000000 ≤ x + y ∧ x + y ≤ 2000000000000000000 := by omega
  have hxy2 : -2000000000000000000 ≤ x + -y ∧ x + -y ≤ 2000000000000000000 := by omega
  have hneg : x - y = x + -y := by omega
  have hw := arithN_ways op x y h0 h4 v h
  rw [hneg] at hw
  clear ha hb hxa hyb ea eb h hneg
  obtain ⟨ya, yb, yc, ev⟩ := tell_form v
  rcases hw with ⟨rfl, h⟩ | ⟨rfl, h⟩ | ⟨rfl, h⟩ | ⟨rfl, rfl, h⟩ | ⟨rfl, hy0, h⟩ | ⟨rfl, h⟩
  · obtain ⟨n, ok, hr⟩ : ∃ n ok, Tab.fit (x + y) = (n, ok) := ⟨_, _, rfl⟩
    rw [hr] at h
    have HO := Lib.hid fun w => refAdd_any x y n ok w hxy hr
    have HC := Lib.hid fun w => refCounted_any n ok v w h
    rw [ev] at HC ⊢
    clear hr h ev hxy hxy2 h0 h4
    go_enter Tryz.func26, Tryz.ntmps26
    go_wp2_with (first | (go_at_call 62; fail))
    go_at_call 62
    refine (HA.out _).mono ?_
    rintro e w1 ⟨rfl, hb1⟩
    obtain ⟨_, c1, c2, f2, _, _⟩ := boxes3 hb1
    go_wp2_with (first | (go_at_call 62; fail))
    clear c1 c2 f2
    go_at_call 62
    refine (HB.out _).mono ?_
    rintro e w2 ⟨rfl, hb2⟩
    have hb12 := hb1.trans (hb2.mono hb1.size)
    clear hb1 hb2
    obtain ⟨_, c1, c2, f2, _, _⟩ := boxes3 hb12
    go_wp2_with (first | (go_at_call 97; refine (HO.out _).mono ?_; rintro e w' ⟨rfl, rfl⟩) | (go_at_call 65; fail))
    clear c1 c2 f2
    go_at_call 65
    refine (HC.out _).mono ?_
    rintro e w3 ⟨rfl, hbx⟩
    have hb13 := hb12.trans (hbx.mono hb12.size)
    clear hbx hb12
    obtain ⟨_, c1, c2, f2, _, h0⟩ := boxes3 hb13
    go_wp2
    obtain ⟨e0, e1, e2⟩ := set_three w3 (w.heap.size + 1 + 1) (.int .i64 ya) (.int .i64 yb) (.string yc) (c2 0) (c2 1) (c2 2)
    have hbf := set_below2 h0 (1 + 1) (.int .i64 ya) (.int .i64 yb) (.string yc)
    rw [show w.heap.size + (1 + 1) = w.heap.size + 1 + 1 from rfl] at hbf
    generalize (((w3.setCell ⟨w.heap.size + 1 + 1, 0, none⟩ (.int .i64 ya)).setCell ⟨w.heap.size + 1 + 1, 1, none⟩ (.int .i64 yb)).setCell ⟨w.heap.size + 1 + 1, 2, none⟩ (.string yc)) = wf at *
    refine bodyPost_ret (v := .agg #[.int .i64 ya, .int .i64 yb, .string yc]) (by simp [results, Tryz.results26, go_sem, e0, e1, e2]) rfl ?_
    exact ⟨rfl, hbf⟩
  · obtain ⟨n, ok, hr⟩ : ∃ n ok, Tab.fit (x + -y) = (n, ok) := ⟨_, _, rfl⟩
    rw [hr] at h
    have HO := Lib.hid fun w => refAdd_any x (-y) n ok w hxy2 hr
    have HC := Lib.hid fun w => refCounted_any n ok v w h
    rw [ev] at HC ⊢
    clear hr h ev hxy hxy2 h0 h4
    go_enter Tryz.func26, Tryz.ntmps26
    go_wp2_with (first | (go_at_call 62; fail))
    go_at_call 62
    refine (HA.out _).mono ?_
    rintro e w1 ⟨rfl, hb1⟩
    obtain ⟨_, c1, c2, f2, _, _⟩ := boxes3 hb1
    go_wp2_with (first | (go_at_call 62; fail))
    clear c1 c2 f2
    go_at_call 62
    refine (HB.out _).mono ?_
    rintro e w2 ⟨rfl, hb2⟩
    have hb12 := hb1.trans (hb2.mono hb1.size)
    clear hb1 hb2
    obtain ⟨_, c1, c2, f2, _, _⟩ := boxes3 hb12
    go_wp2_with (first | (go_at_call 97; refine (HO.out _).mono ?_; rintro e w' ⟨rfl, rfl⟩) | (go_at_call 65; fail))
    clear c1 c2 f2
    go_at_call 65
    refine (HC.out _).mono ?_
    rintro e w3 ⟨rfl, hbx⟩
    have hb13 := hb12.trans (hbx.mono hb12.size)
    clear hbx hb12
    obtain ⟨_, c1, c2, f2, _, h0⟩ := boxes3 hb13
    go_wp2
    obtain ⟨e0, e1, e2⟩ := set_three w3 (w.heap.size + 1 + 1) (.int .i64 ya) (.int .i64 yb) (.string yc) (c2 0) (c2 1) (c2 2)
    have hbf := set_below2 h0 (1 + 1) (.int .i64 ya) (.int .i64 yb) (.string yc)
    rw [show w.heap.size + (1 + 1) = w.heap.size + 1 + 1 from rfl] at hbf
    generalize (((w3.setCell ⟨w.heap.size + 1 + 1, 0, none⟩ (.int .i64 ya)).setCell ⟨w.heap.size + 1 + 1, 1, none⟩ (.int .i64 yb)).setCell ⟨w.heap.size + 1 + 1, 2, none⟩ (.string yc)) = wf at *
    refine bodyPost_ret (v := .agg #[.int .i64 ya, .int .i64 yb, .string yc]) (by simp [results, Tryz.results26, go_sem, e0, e1, e2]) rfl ?_
    exact ⟨rfl, hbf⟩
  · obtain ⟨n, ok, hr⟩ : ∃ n ok, Tab.mulS x y = (n, ok) := ⟨_, _, rfl⟩
    rw [hr] at h
    have HO := Lib.hid fun w => refMul_any x y n ok w hx hy hr
    have HC := Lib.hid fun w => refCounted_any n ok v w h
    rw [ev] at HC ⊢
    clear hr h ev hxy hxy2 h0 h4
    go_enter Tryz.func26, Tryz.ntmps26
    go_wp2_with (first | (go_at_call 62; fail))
    go_at_call 62
    refine (HA.out _).mono ?_
    rintro e w1 ⟨rfl, hb1⟩
    obtain ⟨_, c1, c2, f2, _, _⟩ := boxes3 hb1
    go_wp2_with (first | (go_at_call 62; fail))
    clear c1 c2 f2
    go_at_call 62
    refine (HB.out _).mono ?_
    rintro e w2 ⟨rfl, hb2⟩
    have hb12 := hb1.trans (hb2.mono hb1.size)
    clear hb1 hb2
    obtain ⟨_, c1, c2, f2, _, _⟩ := boxes3 hb12
    go_wp2_with (first | (go_at_call 98; fail))
    clear c1 c2 f2
    go_at_call 98
    refine (HO.out _).mono ?_
    rintro e w3 ⟨rfl, hbx⟩
    have hb13 := hb12.trans (hbx.mono hb12.size)
    clear hbx hb12
    obtain ⟨_, c1, c2, f2, _, h0⟩ := boxes3 hb13
    go_wp2_with (first | (go_at_call 65; fail))
    clear c1 c2 f2
    go_at_call 65
    refine (HC.out _).mono ?_
    rintro e w4 ⟨rfl, hbx⟩
    have hb14 := hb13.trans (hbx.mono hb13.size)
    clear hbx hb13
    obtain ⟨_, c1, c2, f2, _, h0⟩ := boxes3 hb14
    go_wp2
    obtain ⟨e0, e1, e2⟩ := set_three w4 (w.heap.size + 1 + 1) (.int .i64 ya) (.int .i64 yb) (.string yc) (c2 0) (c2 1) (c2 2)
    have hbf := set_below2 h0 (1 + 1) (.int .i64 ya) (.int .i64 yb) (.string yc)
    rw [show w.heap.size + (1 + 1) = w.heap.size + 1 + 1 from rfl] at hbf
    generalize (((w4.setCell ⟨w.heap.size + 1 + 1, 0, none⟩ (.int .i64 ya)).setCell ⟨w.heap.size + 1 + 1, 1, none⟩ (.int .i64 yb)).setCell ⟨w.heap.size + 1 + 1, 2, none⟩ (.string yc)) = wf at *
    refine bodyPost_ret (v := .agg #[.int .i64 ya, .int .i64 yb, .string yc]) (by simp [results, Tryz.results26, go_sem, e0, e1, e2]) rfl ?_
    exact ⟨rfl, hbf⟩
  · have HF := Lib.hid fun w => refFail_any 1 w
    rw [h, ev] at HF
    rw [ev]
    clear h ev hxy hxy2 h0 h4
    go_enter Tryz.func26, Tryz.ntmps26
    go_wp2_with (first | (go_at_call 62; fail))
    go_at_call 62
    refine (HA.out _).mono ?_
    rintro e w1 ⟨rfl, hb1⟩
    obtain ⟨_, c1, c2, f2, _, _⟩ := boxes3 hb1
    go_wp2_with (first | (go_at_call 62; fail))
    clear c1 c2 f2
    go_at_call 62
    refine (HB.out _).mono ?_
    rintro e w2 ⟨rfl, hb2⟩
    have hb12 := hb1.trans (hb2.mono hb1.size)
    clear hb1 hb2
    obtain ⟨_, c1, c2, f2, _, _⟩ := boxes3 hb12
    go_wp2_with (first | (go_at_call 61; fail))
    clear c1 c2 f2
    go_at_call 61
    refine (HF.out _).mono ?_
    rintro e w3 ⟨rfl, hbx⟩
    have hb13 := hb12.trans (hbx.mono hb12.size)
    clear hbx hb12
    obtain ⟨_, c1, c2, f2, _, h0⟩ := boxes3 hb13
    go_wp2
    obtain ⟨e0, e1, e2⟩ := set_three w3 (w.heap.size + 1 + 1) (.int .i64 ya) (.int .i64 yb) (.string yc) (c2 0) (c2 1) (c2 2)
    have hbf := set_below2 h0 (1 + 1) (.int .i64 ya) (.int .i64 yb) (.string yc)
    rw [show w.heap.size + (1 + 1) = w.heap.size + 1 + 1 from rfl] at hbf
    generalize (((w3.setCell ⟨w.heap.size + 1 + 1, 0, none⟩ (.int .i64 ya)).setCell ⟨w.heap.size + 1 + 1, 1, none⟩ (.int .i64 yb)).setCell ⟨w.heap.size + 1 + 1, 2, none⟩ (.string yc)) = wf at *
    refine bodyPost_ret (v := .agg #[.int .i64 ya, .int .i64 yb, .string yc]) (by simp [results, Tryz.results26, go_sem, e0, e1, e2]) rfl ?_
    exact ⟨rfl, hbf⟩
  · have hyz : (y == 0) = false := by rw [beq_eq_false_iff_ne]; exact hy0
    obtain ⟨n, ok, hr⟩ : ∃ n ok, Tab.divS x y = (n, ok) := ⟨_, _, rfl⟩
    rw [hr] at h
    have HO := Lib.hid fun w => refDiv_any x y n ok w hx hy hy0 hr
    have HC := Lib.hid fun w => refCounted_any n ok v w h
    rw [ev] at HC ⊢
    clear hr h ev hxy hxy2 h0 h4
    go_enter Tryz.func26, Tryz.ntmps26
    go_wp2_with (first | (go_at_call 62; fail))
    go_at_call 62
    refine (HA.out _).mono ?_
    rintro e w1 ⟨rfl, hb1⟩
    obtain ⟨_, c1, c2, f2, _, _⟩ := boxes3 hb1
    go_wp2_with (first | (go_at_call 62; fail))
    clear c1 c2 f2
    go_at_call 62
    refine (HB.out _).mono ?_
    rintro e w2 ⟨rfl, hb2⟩
    have hb12 := hb1.trans (hb2.mono hb1.size)
    clear hb1 hb2
    obtain ⟨_, c1, c2, f2, _, _⟩ := boxes3 hb12
    go_wp2_with (first | (go_at_call 99; fail))
    clear c1 c2 f2
    go_at_call 99
    refine (HO.out _).mono ?_
    rintro e w3 ⟨rfl, hbx⟩
    have hb13 := hb12.trans (hbx.mono hb12.size)
    clear hbx hb12
    obtain ⟨_, c1, c2, f2, _, h0⟩ := boxes3 hb13
    go_wp2_with (first | (go_at_call 65; fail))
    clear c1 c2 f2
    go_at_call 65
    refine (HC.out _).mono ?_
    rintro e w4 ⟨rfl, hbx⟩
    have hb14 := hb13.trans (hbx.mono hb13.size)
    clear hbx hb13
    obtain ⟨_, c1, c2, f2, _, h0⟩ := boxes3 hb14
    go_wp2
    obtain ⟨e0, e1, e2⟩ := set_three w4 (w.heap.size + 1 + 1) (.int .i64 ya) (.int .i64 yb) (.string yc) (c2 0) (c2 1) (c2 2)
    have hbf := set_below2 h0 (1 + 1) (.int .i64 ya) (.int .i64 yb) (.string yc)
    rw [show w.heap.size + (1 + 1) = w.heap.size + 1 + 1 from rfl] at hbf
    generalize (((w4.setCell ⟨w.heap.size + 1 + 1, 0, none⟩ (.int .i64 ya)).setCell ⟨w.heap.size + 1 + 1, 1, none⟩ (.int .i64 yb)).setCell ⟨w.heap.size + 1 + 1, 2, none⟩ (.string yc)) = wf at *
    refine bodyPost_ret (v := .agg #[.int .i64 ya, .int .i64 yb, .string yc]) (by simp [results, Tryz.results26, go_sem, e0, e1, e2]) rfl ?_
    exact ⟨rfl, hbf⟩
  · have HO := Lib.hid fun w => refPower_any x y v w hx hy h
    rw [ev] at HO ⊢
    clear h ev hxy hxy2 h0 h4
    go_enter Tryz.func26, Tryz.ntmps26
    go_wp2_with (first | (go_at_call 62; fail))
    go_at_call 62
    refine (HA.out _).mono ?_
    rintro e w1 ⟨rfl, hb1⟩
    obtain ⟨_, c1, c2, f2, _, _⟩ := boxes3 hb1
    go_wp2_with (first | (go_at_call 62; fail))
    clear c1 c2 f2
    go_at_call 62
    refine (HB.out _).mono ?_
    rintro e w2 ⟨rfl, hb2⟩
    have hb12 := hb1.trans (hb2.mono hb1.size)
    clear hb1 hb2
    obtain ⟨_, c1, c2, f2, _, _⟩ := boxes3 hb12
    go_wp2_with (first | (go_at_call 74; fail))
    clear c1 c2 f2
    go_at_call 74
    refine (HO.out _).mono ?_
    rintro e w3 ⟨rfl, hbx⟩
    have hb13 := hb12.trans (hbx.mono hb12.size)
    clear hbx hb12
    obtain ⟨_, c1, c2, f2, _, h0⟩ := boxes3 hb13
    go_wp2
    obtain ⟨e0, e1, e2⟩ := set_three w3 (w.heap.size + 1 + 1) (.int .i64 ya) (.int .i64 yb) (.string yc) (c2 0) (c2 1) (c2 2)
    have hbf := set_below2 h0 (1 + 1) (.int .i64 ya) (.int .i64 yb) (.string yc)
    rw [show w.heap.size + (1 + 1) = w.heap.size + 1 + 1 from rfl] at hbf
    generalize (((w3.setCell ⟨w.heap.size + 1 + 1, 0, none⟩ (.int .i64 ya)).setCell ⟨w.heap.size + 1 + 1, 1, none⟩ (.int .i64 yb)).setCell ⟨w.heap.size + 1 + 1, 2, none⟩ (.string yc)) = wf at *
    refine bodyPost_ret (v := .agg #[.int .i64 ya, .int .i64 yb, .string yc]) (by simp [results, Tryz.results26, go_sem, e0, e1, e2]) rfl ?_
    exact ⟨rfl, hbf⟩
theorem refArith_any (op : Int) (a b : V) (w : World) (ha : a.short 4294967) (hb : b.short 4294967) (ga : a.good) (gb : b.good) (h0 : 0 ≤ op) (h4 : op ≤ 4) :
    Calls Tryz.prog 26 #[.int .i64 op, a.tell, b.tell] w fun e w' => e = .returned (arithV op a b).tell ∧ Below w.heap.size w w' := by
  have b1 := asNum_bd a ga
  have b2 := asNum_bd b gb
  unfold arithV
  obtain ⟨x, f, hx⟩ : ∃ x f, a.asNum = (x, f) := ⟨_, _, rfl⟩
  obtain ⟨y, g, hy⟩ : ∃ x f, b.asNum = (x, f) := ⟨_, _, rfl⟩
  rw [hx] at b1 ⊢
  rw [hy] at b2 ⊢
  by_cases hf : f = 0
  · subst hf
    by_cases hg : g = 0
    · subst hg
      simp only [ne_eq, not_true_eq_false, if_false]
      exact refArith_nums op x y a b _ w ha hb hx hy b1 b2 h0 h4 rfl
    · simp only [ne_eq, not_true_eq_false, if_false, hg, not_false_eq_true, if_true]
      exact refArith_second op x y g a b w ha hb hx hy hg
  · simp only [ne_eq, hf, not_false_eq_true, if_true]
    exact refArith_first op x f a b w ha hx hf
end Go.Proofs.YtkobkeopajohiaaGreatDoor
namespace Go.Proofs.YtkobkeopajohiaaGreatDoor
open Go.RowKit Go.Lib

set_option maxHeartbeats 1600000 in
set_option maxRecDepth 100000 in
theorem refGreat_any (s : ByteArray) (w : World) (hs : s.size ≤ 4294967296) :
    Calls Tryz.prog 90 #[.string s] w fun e w' => e = .returned (.string (great s)) ∧ Below w.heap.size w w' := by
  have hcv := conv_bytes
  have h1 : (s.size : Int) ≤ 4294967296 := by omega
  have hba := Lib.hid (bytesAt_conv w s)
  have hbel : Below w.heap.size w (bytesWorld w 5 s) := ⟨rfl, rfl, rfl, by rw [bytesWorld_size]; exact Nat.le_succ _, fun i hi => bytesWorld_at_old _ _ _ i hi⟩
  unfold great
  generalize hL : s.data.toList = L at *
  have hlen : Hid (L.length = s.size) := by rw [← hL, ← size_eq]; rfl
  clear hL
  generalize hR : L.map upperB = R
  have HR := Lib.hid hR
  clear hR
  go_enter Tryz.func90, Tryz.ntmps90
  go_wp2
  clear hcv
  generalize bytesWorld w 5 s = W1 at *
  go_loopw [9] (fun vi wr => ∃ (j : Nat) (M : List UInt8), vi = .int .i64 j ∧ j ≤ s.size ∧ Hid (M.length = s.size) ∧ BytesAt wr w.heap.size M ∧ Below w.heap.size w wr ∧ Hid (M = (L.take j).map upperB ++ L.drop j))
    (fun vi _ => s.size - (RowKit.intOf vi).toNat)
  case atStart =>
    exact ⟨0, L, rfl, Nat.zero_le _, hlen, hba.out, hbel, Lib.hid (by simp)⟩
  case round =>
    obtain ⟨j, M, rfl, hj, hml, hbt, hbw, hinv⟩ := hrel
    clear hba hbel
    by_cases hjs : j < s.size
    · have hjL : j < L.length := by rw [hlen.out]; exact hjs
      have hd : L.drop j = L.getD j 0 :: L.drop (j + 1) := by
        rw [List.drop_eq_getElem_cons hjL, List.getD_eq_getElem?_getD, List.getElem?_eq_getElem hjL]; rfl
      have ht : L.take (j + 1) = L.take j ++ [L.getD j 0] := by
        rw [List.take_succ_eq_append_getElem hjL, List.getD_eq_getElem?_getD, List.getElem?_eq_getElem hjL]; rfl
      have hMj : M.getD j 0 = L.getD j 0 := by
        rw [hinv.out, List.getD_eq_getElem?_getD, List.getElem?_append_right (by rw [List.length_map, List.length_take]; omega), hd]
        rw [List.length_map, List.length_take, Nat.min_eq_left (by omega), Nat.sub_self]; rfl
      obtain ⟨hcell, hz⟩ := hbt j (by rw [hml.out]; omega)
      rw [hMj] at hcell
      have hset : ∀ x : UInt8, M.set j x = (L.take j).map upperB ++ x :: L.drop (j + 1) := by
        intro x
        rw [hinv.out, hd, List.set_append_right _ _ (by rw [List.length_map, List.length_take]; omega), List.length_map, List.length_take, Nat.min_eq_left (by omega), Nat.sub_self]
        rfl
      generalize L.getD j 0 = c at *
      have hc8 := c.toNat_lt
      have hc9 : (c.toNat : Int) < 256 := by omega
      have hbs := fun x => hbt.set j (by rw [hml.out]; omega) x
      by_cases hlow : 97 ≤ (c.toNat : Int) ∧ (c.toNat : Int) ≤ 122
      · obtain ⟨e1, e2⟩ := upper_hi c hlow
        have hb1 := hbs (c - 32)
        rw [e2] at hb1
        have HM : Hid (M.set j (c - 32) = (L.take (j + 1)).map upperB ++ L.drop (j + 1)) := Lib.hid (by rw [hset, ht, List.map_append, List.map_cons, e1, List.append_assoc]; rfl)
        have hbw2 : Below w.heap.size w (wr.setCell ⟨w.heap.size, j, none⟩ (.int .u8 ((c.toNat : Int) - 32))) := hbw.setCell (Nat.le_refl _) _
        have hl2 : Hid ((M.set j (c - 32)).length = s.size) := by rw [List.length_set]; exact hml.out
        clear hbt hMj hset hbs ht e1 e2 hc8 hd
        obtain ⟨hl7, hl8⟩ := hlow
        go_wp2
        go_roundw
        case rel => exact ⟨j + 1, _, rfl, by omega, hl2, hb1, hbw2, HM⟩
        case measure => simp [RowKit.intOf]; omega
      · have HM : Hid (M = (L.take (j + 1)).map upperB ++ L.drop (j + 1)) := Lib.hid (by rw [hinv.out, hd, ht, List.map_append, List.map_cons, upper_lo c hlow, List.append_assoc]; rfl)
        clear hMj hset hbs ht hc8 hd
        by_cases hl7 : 97 ≤ (c.toNat : Int)
        · have hl8 : ¬ (c.toNat : Int) ≤ 122 := fun h => hlow ⟨hl7, h⟩
          clear hlow
          go_wp2
          go_roundw
          case rel => exact ⟨j + 1, _, rfl, by omega, hml, hbt, hbw, HM⟩
          case measure => simp [RowKit.intOf]; omega
        · clear hlow
          go_wp2
          go_roundw
          case rel => exact ⟨j + 1, _, rfl, by omega, hml, hbt, hbw, HM⟩
          case measure => simp [RowKit.intOf]; omega
    · obtain rfl : j = s.size := by omega
      have hfin : M = R := by
        rw [hinv.out, ← HR.out, ← hlen.out, List.take_length, List.drop_length, List.append_nil]
      have hback := fun cap => hbt.back s.size cap hml.out
      rw [hfin] at hback
      clear hfin hbt hinv
      go_wp2
      go_ret
      exact ⟨rfl, hbw⟩
theorem text_short (a : Int) (h : -999999999999999999 ≤ a ∧ a ≤ 999999999999999999) : (Tab.text a).length ≤ 40 := by
  unfold Tab.text
  have h1 := digs_len 18 (a.natAbs / 10000) (by omega)
  have h2 : (Tab.frac (a.natAbs % 10000)).length ≤ 5 := by
    unfold Tab.frac
    split
    · simp
    · obtain ⟨l, hl, _, h4, _⟩ := Tab.frac_back (a.natAbs % 10000) (by assumption) (by omega)
      rw [hl, List.length_cons]; omega
  rw [List.length_append, List.length_append]
  split <;> simp <;> omega
theorem asTx_size (v : V) (hg : v.good) (hs : v.short 4294967) : v.asTx.1.size ≤ 4294967 := by
  cases v with
  | num n =>
    show (⟨(Tab.text n).toArray⟩ : ByteArray).size ≤ _
    rw [size_eq]
    have := text_short n hg
    show (Tab.text n).length ≤ _
    omega
  | text s => exact hs
  | bool b => cases b <;> decide
  | fail n => show (⟨#[]⟩ : ByteArray).size ≤ _; decide
  | blank => decide
/-- a text that is made -/
def madeV (s : ByteArray) : V := if 2000 < s.size then .fail 3 else .text s
def joinV (a b : V) : V := if a.asTx.2 ≠ 0 then .fail a.asTx.2 else if b.asTx.2 ≠ 0 then .fail b.asTx.2 else madeV (a.asTx.1 ++ b.asTx.1)
set_option maxRecDepth 100000 in
theorem made_any2 (s : ByteArray) (v : V) (w : World) (h : madeV s = v) : Calls Tryz.prog 82 #[.string s] w fun e w' => e = .returned v.val ∧ w = w' := by
  unfold madeV at h
  by_cases hs : 2000 < s.size
  · rw [if_pos hs] at h
    subst h
    have hi : (2000 : Int) < s.size := by omega
    simp only [V.val]
    go_enter Tryz.func82, Tryz.ntmps82
    go_wp2
    go_ret
    exact ⟨rfl, rfl⟩
  · rw [if_neg hs] at h
    subst h
    have hi : ¬ (2000 : Int) < s.size := by omega
    simp only [V.val]
    go_enter Tryz.func82, Tryz.ntmps82
    go_wp2
    go_ret
    exact ⟨rfl, rfl⟩
set_option maxRecDepth 100000 in
theorem refMade_any (s : ByteArray) (v : V) (w : World) (h : madeV s = v) : Calls Tryz.prog 84 #[.string s] w fun e w' => e = .returned v.tell ∧ Below w.heap.size w w' := by
  unfold madeV at h
  by_cases hs : 2000 < s.size
  · rw [if_pos hs] at h
    subst h
    have hi : (2000 : Int) < s.size := by omega
    simp only [V.tell]
    go_enter Tryz.func84, Tryz.ntmps84
    go_wp2
    go_returns
    exact ⟨by rfl, by go_grown⟩
  · rw [if_neg hs] at h
    subst h
    have hi : ¬ (2000 : Int) < s.size := by omega
    simp only [V.tell]
    go_enter Tryz.func84, Tryz.ntmps84
    go_wp2
    go_returns
    exact ⟨by rfl, by go_grown⟩
set_option maxHeartbeats 1600000 in
set_option maxRecDepth 100000 in
theorem join_any (a b : V) (w : World) (hP : GP w) (ga : a.good) (gb : b.good) (ha : a.short 4294967) (hb : b.short 4294967) :
    Calls Tryz.prog 19 #[a.val, b.val] w fun e w' => e = .returned (joinV a b).val ∧ Below w.heap.size w w' := by
  have hsa := asTx_size a ga ha
  have hsb := asTx_size b gb hb
  obtain ⟨s, f, hx⟩ : ∃ s f, a.asTx = (s, f) := ⟨_, _, rfl⟩
  obtain ⟨t, g, hy⟩ : ∃ s f, b.asTx = (s, f) := ⟨_, _, rfl⟩
  have HA := Lib.hid fun w hP => asText_is a s f w hP ga hx
  have HB := Lib.hid fun w hP => asText_is b t g w hP gb hy
  unfold joinV
  rw [hx] at hsa ⊢
  rw [hy] at hsb ⊢
  have hsa : s.size ≤ 4294967 := hsa
  have hsb : t.size ≤ 4294967 := hsb
  rw [V.val_eq] at HA HB
  rw [V.val_eq a, V.val_eq b]
  clear ga gb ha hb hx hy
  generalize a.ty = ta at *
  generalize a.raw = xa at *
  generalize b.ty = tb at *
  generalize b.raw = xb at *
  by_cases hf : f = 0
  · subst hf
    by_cases hg : g = 0
    · subst hg
      simp only [ne_eq, not_true_eq_false, if_false]
      obtain ⟨v, hv⟩ : ∃ v, madeV (s ++ t) = v := ⟨_, rfl⟩
      have HM := Lib.hid fun w => made_any2 (s ++ t) v w hv
      rw [hv]
      rw [V.val_eq] at HM ⊢
      clear hv
      generalize v.ty = tv at *
      generalize v.raw = xv at *
      go_enter Tryz.func19, Tryz.ntmps19
      go_wp2_with (first | (go_at_call 28; fail))
      go_at_call 28
      refine (HA.out _ hP).mono ?_
      rintro e w1 ⟨rfl, hb1⟩
      have hP1 := hP.below hb1
      go_wp2_with (first | (go_at_call 28; fail))
      go_at_call 28
      refine (HB.out _ hP1).mono ?_
      rintro e w2 ⟨rfl, hb2⟩
      have hb12 := hb1.trans (hb2.mono hb1.size)
      clear hb1 hb2 hP1
      go_wp2_with (first | (go_at_call 82; refine (HM.out _).mono ?_; rintro e w' ⟨rfl, rfl⟩))
      go_ret
      exact ⟨rfl, hb12⟩
    · have hg0 : (g == 0) = false := by rw [beq_eq_false_iff_ne]; exact hg
      simp only [ne_eq, not_true_eq_false, if_false, hg, not_false_eq_true, if_true, V.val]
      go_enter Tryz.func19, Tryz.ntmps19
      go_wp2_with (first | (go_at_call 28; fail))
      go_at_call 28
      refine (HA.out _ hP).mono ?_
      rintro e w1 ⟨rfl, hb1⟩
      have hP1 := hP.below hb1
      go_wp2_with (first | (go_at_call 28; fail))
      go_at_call 28
      refine (HB.out _ hP1).mono ?_
      rintro e w2 ⟨rfl, hb2⟩
      have hb12 := hb1.trans (hb2.mono hb1.size)
      clear hb1 hb2 hP1
      go_wp2
      go_ret
      exact ⟨rfl, hb12⟩
  · have hf0 : (f == 0) = false := by rw [beq_eq_false_iff_ne]; exact hf
    simp only [ne_eq, hf, not_false_eq_true, if_true, V.val]
    go_enter Tryz.func19, Tryz.ntmps19
    go_wp2_with (first | (go_at_call 28; fail))
    go_at_call 28
    refine (HA.out _ hP).mono ?_
    rintro e w1 ⟨rfl, hb1⟩
    go_wp2
    go_ret
    exact ⟨rfl, hb1⟩
set_option maxHeartbeats 1600000 in
set_option maxRecDepth 100000 in
theorem refJoin_any (a b : V) (w : World) (ga : a.good) (gb : b.good) (ha : a.short 4294967) (hb : b.short 4294967) :
    Calls Tryz.prog 20 #[a.tell, b.tell] w fun e w' => e = .returned (joinV a b).tell ∧ Below w.heap.size w w' := by
  have hsa := asTx_size a ga ha
  have hsb := asTx_size b gb hb
  obtain ⟨s, f, hx⟩ : ∃ s f, a.asTx = (s, f) := ⟨_, _, rfl⟩
  obtain ⟨t, g, hy⟩ : ∃ s f, b.asTx = (s, f) := ⟨_, _, rfl⟩
  have HA := Lib.hid fun w => refAsText_any a s f w ga hx
  have HB := Lib.hid fun w => refAsText_any b t g w gb hy
  unfold joinV
  rw [hx] at hsa ⊢
  rw [hy] at hsb ⊢
  have hsa : s.size ≤ 4294967 := hsa
  have hsb : t.size ≤ 4294967 := hsb
  obtain ⟨ka, na, sa, ea⟩ := tell_form a
  obtain ⟨kb, nb, sb, eb⟩ := tell_form b
  rw [ea] at HA ⊢
  rw [eb] at HB ⊢
  clear ga gb ha hb hx hy ea eb
  by_cases hf : f = 0
  · subst hf
    by_cases hg : g = 0
    · subst hg
      simp only [ne_eq, not_true_eq_false, if_false]
      obtain ⟨v, hv⟩ : ∃ v, madeV (s ++ t) = v := ⟨_, rfl⟩
      have HM := Lib.hid fun w => refMade_any (s ++ t) v w hv
      rw [hv]
      obtain ⟨ya, yb, yc, ev⟩ := tell_form v
      rw [ev] at HM ⊢
      clear hv ev
      go_enter Tryz.func20, Tryz.ntmps20
      go_wp2_with (first | (go_at_call 83; fail))
      go_at_call 83
      refine (HA.out _).mono ?_
      rintro e w1 ⟨rfl, hb1⟩
      obtain ⟨_, c1, c2, f2, _, _⟩ := boxes3 hb1
      go_wp2_with (first | (go_at_call 83; fail))
      clear c1 c2 f2
      go_at_call 83
      refine (HB.out _).mono ?_
      rintro e w2 ⟨rfl, hb2⟩
      have hb12 := hb1.trans (hb2.mono hb1.size)
      clear hb1 hb2
      obtain ⟨_, c1, c2, f2, _, _⟩ := boxes3 hb12
      go_wp2_with (first | (go_at_call 84; fail))
      clear c1 c2 f2
      go_at_call 84
      refine (HM.out _).mono ?_
      rintro e w3 ⟨rfl, hbx⟩
      have hb13 := hb12.trans (hbx.mono hb12.size)
      clear hbx hb12
      obtain ⟨_, c1, c2, f2, _, h0⟩ := boxes3 hb13
      go_wp2
      obtain ⟨e0, e1, e2⟩ := set_three w3 (w.heap.size + 1 + 1) (.int .i64 ya) (.int .i64 yb) (.string yc) (c2 0) (c2 1) (c2 2)
      have hbf := set_below2 h0 (1 + 1) (.int .i64 ya) (.int .i64 yb) (.string yc)
      rw [show w.heap.size + (1 + 1) = w.heap.size + 1 + 1 from rfl] at hbf
      generalize (((w3.setCell ⟨w.heap.size + 1 + 1, 0, none⟩ (.int .i64 ya)).setCell ⟨w.heap.size + 1 + 1, 1, none⟩ (.int .i64 yb)).setCell ⟨w.heap.size + 1 + 1, 2, none⟩ (.string yc)) = wf at *
      refine bodyPost_ret (v := .agg #[.int .i64 ya, .int .i64 yb, .string yc]) (by simp [results, Tryz.results20, go_sem, e0, e1, e2]) rfl ?_
      exact ⟨rfl, hbf⟩
    · have hg0 : (g == 0) = false := by rw [beq_eq_false_iff_ne]; exact hg
      have HF := Lib.hid fun w => refFail_any g w
      simp only [V.tell] at HF
      simp only [ne_eq, not_true_eq_false, if_false, hg, not_false_eq_true, if_true, V.tell]
      go_enter Tryz.func20, Tryz.ntmps20
      go_wp2_with (first | (go_at_call 83; fail))
      go_at_call 83
      refine (HA.out _).mono ?_
      rintro e w1 ⟨rfl, hb1⟩
      obtain ⟨_, c1, c2, f2, _, _⟩ := boxes3 hb1
      go_wp2_with (first | (go_at_call 83; fail))
      clear c1 c2 f2
      go_at_call 83
      refine (HB.out _).mono ?_
      rintro e w2 ⟨rfl, hb2⟩
      have hb12 := hb1.trans (hb2.mono hb1.size)
      clear hb1 hb2
      obtain ⟨_, c1, c2, f2, _, _⟩ := boxes3 hb12
      go_wp2_with (first | (go_at_call 61; fail))
      clear c1 c2 f2
      go_at_call 61
      refine (HF.out _).mono ?_
      rintro e w3 ⟨rfl, hbx⟩
      have hb13 := hb12.trans (hbx.mono hb12.size)
      clear hbx hb12
      obtain ⟨_, c1, c2, f2, _, h0⟩ := boxes3 hb13
      go_wp2
      obtain ⟨e0, e1, e2⟩ := set_three w3 (w.heap.size + 1 + 1) (.int .i64 4) (.int .i64 g) (.string ByteArray.empty) (c2 0) (c2 1) (c2 2)
      have hbf := set_below2 h0 (1 + 1) (.int .i64 4) (.int .i64 g) (.string ByteArray.empty)
      rw [show w.heap.size + (1 + 1) = w.heap.size + 1 + 1 from rfl] at hbf
      generalize (((w3.setCell ⟨w.heap.size + 1 + 1, 0, none⟩ (.int .i64 4)).setCell ⟨w.heap.size + 1 + 1, 1, none⟩ (.int .i64 g)).setCell ⟨w.heap.size + 1 + 1, 2, none⟩ (.string ByteArray.empty)) = wf at *
      refine bodyPost_ret (v := .agg #[.int .i64 4, .int .i64 g, .string ByteArray.empty]) (by simp [results, Tryz.results20, go_sem, e0, e1, e2]) rfl ?_
      exact ⟨rfl, hbf⟩
  · have hf0 : (f == 0) = false := by rw [beq_eq_false_iff_ne]; exact hf
    have HF := Lib.hid fun w => refFail_any f w
    simp only [V.tell] at HF
    simp only [ne_eq, hf, not_false_eq_true, if_true, V.tell]
    go_enter Tryz.func20, Tryz.ntmps20
    go_wp2_with (first | (go_at_call 83; fail))
    go_at_call 83
    refine (HA.out _).mono ?_
    rintro e w1 ⟨rfl, hb1⟩
    obtain ⟨_, c1, c2, f2, _, _⟩ := boxes3 hb1
    go_wp2_with (first | (go_at_call 61; fail))
    clear c1 c2 f2
    go_at_call 61
    refine (HF.out _).mono ?_
    rintro e w2 ⟨rfl, hbx⟩
    have hb12 := hb1.trans (hbx.mono hb1.size)
    clear hbx hb1
    obtain ⟨_, c1, c2, f2, _, h0⟩ := boxes3 hb12
    go_wp2
    obtain ⟨e0, e1, e2⟩ := set_three w2 (w.heap.size + 1 + 1) (.int .i64 4) (.int .i64 f) (.string ByteArray.empty) (c2 0) (c2 1) (c2 2)
    have hbf := set_below2 h0 (1 + 1) (.int .i64 4) (.int .i64 f) (.string ByteArray.empty)
    rw [show w.heap.size + (1 + 1) = w.heap.size + 1 + 1 from rfl] at hbf
    generalize (((w2.setCell ⟨w.heap.size + 1 + 1, 0, none⟩ (.int .i64 4)).setCell ⟨w.heap.size + 1 + 1, 1, none⟩ (.int .i64 f)).setCell ⟨w.heap.size + 1 + 1, 2, none⟩ (.string ByteArray.empty)) = wf at *
    refine bodyPost_ret (v := .agg #[.int .i64 4, .int .i64 f, .string ByteArray.empty]) (by simp [results, Tryz.results20, go_sem, e0, e1, e2]) rfl ?_
    exact ⟨rfl, hbf⟩
end Go.Proofs.YtkobkeopajohiaaGreatDoor
