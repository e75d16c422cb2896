/-
  CONTRACTS of the reference's Pow, Add, Counted and Power, and of value.Power.
  CONTRACTS of the reference's Counted and Power, and of value.Power.
  CONTRACTS of the reference's Trim, AsNumber and AsText.
-/
import Derived.Test.YtkobkeopajohiaaGreatDoorNA
import Derived.Test.YtkobkeopajohiaaGreatDoorNB
import Derived.Test.YtkobkeopajohiaaGreatDoorVB
import Derived.Test.YtkobkeopajohiaaGreatDoorGH
import Derived.Handy
import Derived.Test.YtkobkeopajohiaaGreatDoorTT
import Derived.Test.YtkobkeopajohiaaGreatDoorPL
import Derived.Test.YtkobkeopajohiaaGreatDoorGG
import Derived.BigQuiet
import Derived.Deep.QuietTactic
namespace Go.Proofs.YtkobkeopajohiaaGreatDoor
open Go.RowKit Go.Lib

theorem refPow_far (a n : Int) (w : World) (h : n < -1000 ∨ 1000 < n) :
    Calls Tryz.prog 133 #[.int .i64 a, .int .i64 n] w fun e w' => e = .returned (.tuple #[.int .i64 0, .bool false]) ∧ Below w.heap.size w w' := by
  rcases h with h | h
  all_goals
    go_enter Tryz.func133, Tryz.ntmps133
    go_wp2
    go_ret2
    exact ⟨rfl, Below.refl _ _⟩
set_option maxHeartbeats 3200000 in
set_option maxRecDepth 100000 in
theorem refPow_near (a n r : Int) (ok : Bool) (w : World) (ha : -999999999999999999 ≤ a ∧ a ≤ 999999999999999999) (h1 : -1000 ≤ n) (h2 : n ≤ 1000) (h : Tab.powS a n = (r, ok)) :
    Calls Tryz.prog 133 #[.int .i64 a, .int .i64 n] w fun e w' => e = .returned (.tuple #[.int .i64 r, .bool ok]) ∧ Below w.heap.size w w' := by
  unfold Tab.powS at h
  rw [if_neg (by omega)] at h
  obtain ⟨m, hm⟩ : ∃ m, n.natAbs = m := ⟨_, rfl⟩
  rw [hm] at h
  have H := Lib.hid h
  clear h
  have hm1 : m ≤ 1000 := by omega
  have hst : Hid (Tab.powN (m - 0) 10000 a = Tab.powN m 10000 a) := Lib.hid rfl
  obtain ⟨R, hR⟩ : ∃ R, Tab.powN m 10000 a = R := ⟨_, rfl⟩
  rw [hR] at hst H
  have hRb : -999999999999999999 ≤ R.1 ∧ R.1 ≤ 999999999999999999 := by rw [← hR]; exact Tab.powN_bd m 10000 a (by omega)
  clear hR
  have HMM := Lib.hid hm
  by_cases hn : n < 0
  · have hni : 0 - n = (m : Int) := by omega
    have hni2 : -n = (m : Int) := by omega
    clear hm
    go_enter Tryz.func133, Tryz.ntmps133
    go_wp2
    go_loopw [7, 8] (fun vp vi wr => ∃ (p : Int) (j : Nat), vp = .int .i64 p ∧ vi = .int .i64 j ∧ j ≤ m ∧ (-999999999999999999 ≤ p ∧ p ≤ 999999999999999999) ∧ Hid (Tab.powN (m - j) p a = R) ∧ Below w.heap.size w wr) (fun _ vi _ => m - (RowKit.intOf vi).toNat)
    case atStart => exact ⟨10000, 0, rfl, rfl, by omega, by omega, hst, Below.refl _ _⟩
    case round =>
      obtain ⟨p, j, rfl, rfl, hj, hp, hinv, hw⟩ := hrel
      by_cases hjm : j < m
      · have h1' := hinv.out
        rw [show m - j = (m - (j + 1)) + 1 by omega] at h1'
        simp only [Tab.powN] at h1'
        obtain ⟨q, k2, hq⟩ : ∃ q k, Tab.mulS p a = (q, k) := ⟨_, _, rfl⟩
        have hqb := Tab.mulS_bd p a
        rw [hq] at h1' hqb
        have hqb : -999999999999999999 ≤ q ∧ q ≤ 999999999999999999 := hqb
        have HM := Lib.hid fun w => refMul_any p a q k2 w hp ha hq
        have hjmi : (j : Int) < m := by omega
        cases k2
        · simp only [Bool.false_eq_true, if_false] at h1'
          have h0 := H.out
          rw [← h1'] at h0
          simp only [Bool.false_eq_true, if_false, Prod.mk.injEq] at h0
          obtain ⟨rfl, rfl⟩ := h0
          clear h1' hq hinv hst H hRb
          go_wp2_with (first | (go_at_call 98; fail))
          go_at_call 98
          refine (HM.out _).mono ?_
          rintro e w1 ⟨rfl, hb⟩
          have hb2 := hw.trans (hb.mono hw.size)
          go_wp2
          go_ret2
          exact ⟨rfl, hb2⟩
        · simp only [if_true] at h1'
          have HN := Lib.hid h1'
          clear h1' hq hinv hst
          go_wp2_with (first | (go_at_call 98; fail))
          go_at_call 98
          refine (HM.out _).mono ?_
          rintro e w1 ⟨rfl, hb⟩
          have hb2 := hw.trans (hb.mono hw.size)
          clear hw hb
          go_wp2
          go_roundw
          case rel => exact ⟨q, j + 1, rfl, by go_num, by omega, hqb, HN, hb2⟩
          case measure => simp [RowKit.intOf]; omega
      · obtain rfl : j = m := by omega
        have hR := hinv.out
        rw [Nat.sub_self] at hR
        simp only [Tab.powN] at hR
        subst hR
        have h0 := H.out
        simp only [if_true] at h0
        rw [if_pos hn] at h0
        clear hinv hst H
        by_cases hp0 : p = 0
        · subst hp0
          obtain ⟨rfl, rfl⟩ : 0 = r ∧ false = ok := by simpa [Tab.divS] using h0
          clear h0
          go_wp2
          go_ret2
          exact ⟨rfl, hw⟩
        · have hpz : (p == 0) = false := by rw [beq_eq_false_iff_ne]; exact hp0
          have HD := Lib.hid fun w => refDiv_any 10000 p r ok w (by omega) hp hp0 h0
          clear h0
          go_wp2_with (first | (go_at_call 99; fail))
          go_at_call 99
          refine (HD.out _).mono ?_
          rintro e w1 ⟨rfl, hb⟩
          have hb2 := hw.trans (hb.mono hw.size)
          go_wp2
          go_ret2
          exact ⟨rfl, hb2⟩
  · obtain rfl : n = (m : Int) := by omega
    clear hm
    go_enter Tryz.func133, Tryz.ntmps133
    go_wp2
    go_loopw [7, 8] (fun vp vi wr => ∃ (p : Int) (j : Nat), vp = .int .i64 p ∧ vi = .int .i64 j ∧ j ≤ m ∧ (-999999999999999999 ≤ p ∧ p ≤ 999999999999999999) ∧ Hid (Tab.powN (m - j) p a = R) ∧ Below w.heap.size w wr) (fun _ vi _ => m - (RowKit.intOf vi).toNat)
    case atStart => exact ⟨10000, 0, rfl, rfl, by omega, by omega, hst, Below.refl _ _⟩
    case round =>
      obtain ⟨p, j, rfl, rfl, hj, hp, hinv, hw⟩ := hrel
      by_cases hjm : j < m
      · have h1' := hinv.out
        rw [show m - j = (m - (j + 1)) + 1 by omega] at h1'
        simp only [Tab.powN] at h1'
        obtain ⟨q, k2, hq⟩ : ∃ q k, Tab.mulS p a = (q, k) := ⟨_, _, rfl⟩
        have hqb := Tab.mulS_bd p a
        rw [hq] at h1' hqb
        have hqb : -999999999999999999 ≤ q ∧ q ≤ 999999999999999999 := hqb
        have HM := Lib.hid fun w => refMul_any p a q k2 w hp ha hq
        have hjmi : (j : Int) < m := by omega
        cases k2
        · simp only [Bool.false_eq_true, if_false] at h1'
          have h0 := H.out
          rw [← h1'] at h0
          simp only [Bool.false_eq_true, if_false, Prod.mk.injEq] at h0
          obtain ⟨rfl, rfl⟩ := h0
          clear h1' hq hinv hst H hRb
          go_wp2_with (first | (go_at_call 98; fail))
          go_at_call 98
          refine (HM.out _).mono ?_
          rintro e w1 ⟨rfl, hb⟩
          have hb2 := hw.trans (hb.mono hw.size)
          go_wp2
          go_ret2
          exact ⟨rfl, hb2⟩
        · simp only [if_true] at h1'
          have HN := Lib.hid h1'
          clear h1' hq hinv hst
          go_wp2_with (first | (go_at_call 98; fail))
          go_at_call 98
          refine (HM.out _).mono ?_
          rintro e w1 ⟨rfl, hb⟩
          have hb2 := hw.trans (hb.mono hw.size)
          clear hw hb
          go_wp2
          go_roundw
          case rel => exact ⟨q, j + 1, rfl, by go_num, by omega, hqb, HN, hb2⟩
          case measure => simp [RowKit.intOf]; omega
      · obtain rfl : j = m := by omega
        have hR := hinv.out
        rw [Nat.sub_self] at hR
        simp only [Tab.powN] at hR
        subst hR
        have h0 := H.out
        simp only [if_true] at h0
        rw [if_neg (show ¬ (j : Int) < 0 by omega)] at h0
        obtain ⟨rfl, rfl⟩ := Prod.mk.inj h0
        clear hinv hst H h0
        go_wp2
        go_ret2
        exact ⟨rfl, hw⟩
theorem refPow_any (a n r : Int) (ok : Bool) (w : World) (ha : -999999999999999999 ≤ a ∧ a ≤ 999999999999999999) (h : Tab.powS a n = (r, ok)) :
    Calls Tryz.prog 133 #[.int .i64 a, .int .i64 n] w fun e w' => e = .returned (.tuple #[.int .i64 r, .bool ok]) ∧ Below w.heap.size w w' := by
  by_cases hf : n < -1000 ∨ 1000 < n
  · unfold Tab.powS at h
    rw [if_pos hf] at h
    obtain ⟨rfl, rfl⟩ := Prod.mk.inj h
    exact refPow_far a n w hf
  · exact refPow_near a n r ok w ha (by omega) (by omega) h
end Go.Proofs.YtkobkeopajohiaaGreatDoor
namespace Go.Proofs.YtkobkeopajohiaaGreatDoor
open Go.RowKit Go.Lib

/-- a number that is counted -/
def cnt (r : Int × Bool) : V := if r.2 then .num r.1 else .fail 2
/-- a number to the power of another one -/
def powerV (x y : Int) : V :=
  if y.tmod 10000 = 0 then (if x = 0 ∧ y < 0 then .fail 1 else cnt (Tab.powS x (y.tdiv 10000))) else .fail 2
theorem powerV_rest {x y : Int} (h : y.tmod 10000 ≠ 0) : powerV x y = .fail 2 := by unfold powerV; rw [if_neg h]
theorem powerV_zero {x y : Int} (h : y.tmod 10000 = 0) (h0 : x = 0 ∧ y < 0) : powerV x y = .fail 1 := by unfold powerV; rw [if_pos h, if_pos h0]
theorem powerV_pow {x y : Int} (h : y.tmod 10000 = 0) (h0 : ¬ (x = 0 ∧ y < 0)) : powerV x y = cnt (Tab.powS x (y.tdiv 10000)) := by unfold powerV; rw [if_pos h, if_neg h0]
theorem cnt_v (n : Int) (ok : Bool) : (if ok then V.num n else V.fail 2) = cnt (n, ok) := rfl

set_option maxRecDepth 100000 in
theorem power_any (x y : Int) (v : V) (w : World) (hx : -999999999999999999 ≤ x ∧ x ≤ 999999999999999999) (hy : -999999999999999999 ≤ y ∧ y ≤ 999999999999999999) (h : powerV x y = v) :
    Calls Tryz.prog 54 #[.int .i64 x, .int .i64 y] w fun e w' => e = .returned v.val ∧ ∃ n, w' = w.drewN n := by
  have HI := Lib.hid fun w => isInt_any y w
  have HW := Lib.hid fun w => whole_any y w hy.1 hy.2
  by_cases hm : y.tmod 10000 = 0
  · rw [decide_eq_true (p := (y.tmod 10000 = 0)) hm |> fun e => show (y.tmod 10000 == 0) = true by simpa using e] at HI
    by_cases h0 : x = 0 ∧ y < 0
    · rw [powerV_zero hm h0] at h
      subst h
      obtain ⟨rfl, hy0⟩ := h0
      simp only [V.val]
      clear hm
      go_enter Tryz.func54, Tryz.ntmps54
      go_wp2_with (first | (go_at_call 121; refine (HI.out _).mono ?_; rintro e w' ⟨rfl, rfl⟩))
      go_ret
      exact ⟨rfl, 0, rfl⟩
    · rw [powerV_pow hm h0] at h
      clear hm
      obtain ⟨r, ok, hp⟩ : ∃ r ok, Tab.powS x (y.tdiv 10000) = (r, ok) := ⟨_, _, rfl⟩
      rw [hp] at h
      have HP := Lib.hid fun w => pow_any x (y.tdiv 10000) r ok w hx hp
      have HC := Lib.hid fun w => counted_v r ok v w h
      have hk : (x == 0) = false ∨ ((x == 0) = true ∧ ¬ y < 0) := by
        by_cases hx0 : x = 0
        · exact .inr ⟨by simp [hx0], fun e => h0 ⟨hx0, e⟩⟩
        · exact .inl (by simp [hx0])
      clear hp h h0
      generalize y.tdiv 10000 = z at *
      rw [V.val_eq] at HC ⊢
      generalize v.ty = t at *
      generalize v.raw = q at *
      rcases hk with hk | ⟨hk, hk2⟩
      all_goals
        go_enter Tryz.func54, Tryz.ntmps54
        go_wp2_with (first
          | (go_at_call 121; refine (HI.out _).mono ?_; rintro e w' ⟨rfl, rfl⟩)
          | (go_at_call 114; refine (HW.out _).mono ?_; rintro e w' ⟨rfl, rfl⟩)
          | (go_at_call 117; refine (HP.out _).mono ?_; rintro e w' ⟨rfl, d, rfl⟩)
          | (go_at_call 43; refine (HC.out _).mono ?_; rintro e w' ⟨rfl, rfl⟩))
        go_ret
        exact ⟨rfl, _, rfl⟩
  · rw [show (y.tmod 10000 == 0) = false by simpa using hm] at HI
    rw [powerV_rest hm] at h
    subst h
    simp only [V.val]
    clear hm
    go_enter Tryz.func54, Tryz.ntmps54
    go_wp2_with (first | (go_at_call 121; refine (HI.out _).mono ?_; rintro e w' ⟨rfl, rfl⟩))
    go_ret
    exact ⟨rfl, 0, rfl⟩
set_option maxRecDepth 100000 in
theorem refCounted_any (n : Int) (ok : Bool) (v : V) (w : World) (h : cnt (n, ok) = v) :
    Calls Tryz.prog 65 #[.int .i64 n, .bool ok] w fun e w' => e = .returned v.tell ∧ Below w.heap.size w w' := by
  subst h
  cases ok <;> simp only [cnt, V.tell, if_true, Bool.false_eq_true, if_false]
  all_goals
    go_enter Tryz.func65, Tryz.ntmps65
    go_wp2
    go_returns
    exact ⟨by rfl, by go_grown⟩
set_option maxRecDepth 100000 in
theorem refFail_any (n : Int) (w : World) :
    Calls Tryz.prog 61 #[.int .i64 n] w fun e w' => e = .returned (V.fail n).tell ∧ Below w.heap.size w w' := by
  simp only [V.tell]
  go_enter Tryz.func61, Tryz.ntmps61
  go_wp2
  go_returns
  exact ⟨by rfl, by go_grown⟩
set_option maxRecDepth 100000 in
theorem refNum_any (n : Int) (w : World) :
    Calls Tryz.prog 63 #[.int .i64 n] w fun e w' => e = .returned (V.num n).tell ∧ Below w.heap.size w w' := by
  simp only [V.tell]
  go_enter Tryz.func63, Tryz.ntmps63
  go_wp2
  go_returns
  exact ⟨by rfl, by go_grown⟩
/-- a result's own cells, behind a call that made memory -/
theorem out_ready {w w1 : World} (hb : Below (w.alloc (.cells #[.int .i64 0, .int .i64 0, .string { data := #[] }] 28)).heap.size (w.alloc (.cells #[.int .i64 0, .int .i64 0, .string { data := #[] }] 28)) w1) :
    (∀ j, w1.cell? ⟨w.heap.size, j, none⟩ = (#[Value.int .i64 0, .int .i64 0, .string { data := #[] }])[j]?) ∧ (∀ j, w1.frozen? ⟨w.heap.size, j, none⟩ = false) ∧ w.heap.size < w1.heap.size ∧ Below w.heap.size w w1 := by
  refine ⟨fun j => ?_, fun j => ?_, ?_, ((Below.refl _ _).alloc (Nat.le_refl _) _).trans (hb.mono (by simp))⟩
  · rw [hb.cell (by simp), World.cell?_alloc_at _ _ _ _ rfl]
  · rw [hb.frozen (by simp)]; simp
  · have := hb.size; simp at this; omega
theorem set_below {w w1 : World} (h : Below w.heap.size w w1) (x y z : Value) : Below w.heap.size w (((w1.setCell ⟨w.heap.size, 0, none⟩ x).setCell ⟨w.heap.size, 1, none⟩ y).setCell ⟨w.heap.size, 2, none⟩ z) :=
  ((h.setCell (Nat.le_refl _) _).setCell (Nat.le_refl _) _).setCell (Nat.le_refl _) _
set_option maxHeartbeats 1600000 in
set_option maxRecDepth 100000 in
theorem refPower_any (x y : Int) (v : V) (w : World) (hx : -999999999999999999 ≤ x ∧ x ≤ 999999999999999999) (hy : -999999999999999999 ≤ y ∧ y ≤ 999999999999999999) (h : powerV x y = v) :
    Calls Tryz.prog 74 #[.int .i64 x, .int .i64 y] w fun e w' => e = .returned v.tell ∧ Below w.heap.size w w' := by
  by_cases hm : y.tmod 10000 = 0
  · have hm2 : (y.tmod 10000 == 0) = true := by simpa using hm
    by_cases h0 : x = 0 ∧ y < 0
    · rw [powerV_zero hm h0] at h
      subst h
      obtain ⟨rfl, hy0⟩ := h0
      simp only [V.tell]
      go_enter Tryz.func74, Tryz.ntmps74
      go_wp2
      go_returns
      exact ⟨by rfl, by go_grown⟩
    · rw [powerV_pow hm h0] at h
      obtain ⟨r, ok, hp⟩ : ∃ r ok, Tab.powS x (y.tdiv 10000) = (r, ok) := ⟨_, _, rfl⟩
      rw [hp] at h
      have HP := Lib.hid fun w => refPow_any x (y.tdiv 10000) r ok w hx hp
      have HC := Lib.hid fun w => refCounted_any r ok v w h
      have hk : (x == 0) = false ∨ ((x == 0) = true ∧ ¬ y < 0) := by
        by_cases hx0 : x = 0
        · exact .inr ⟨by simp [hx0], fun e => h0 ⟨hx0, e⟩⟩
        · exact .inl (by simp [hx0])
      have hq0 : wrap64 (y.tdiv 10000) = y.tdiv 10000 := by
        have h1 := Int.tdiv_mul_add_tmod y 10000
        unfold wrap64
        omega
      clear hp h h0
      obtain ⟨ya, yb, yc, hv⟩ := tell_form v
      rw [hv] at HC ⊢
      clear hv
      obtain ⟨z, hz⟩ : ∃ z, y.tdiv 10000 = z := ⟨_, rfl⟩
      rw [hz] at HP hq0
      have hz2 : 0 ≤ y → y / 10000 = z := fun hy0 => by rw [← hz, Int.tdiv_eq_ediv_of_nonneg hy0]
      have hk : ((x == 0) = false ∧ y < 0) ∨ ((x == 0) = false ∧ 0 ≤ y ∧ y / 10000 = z) ∨ ((x == 0) = true ∧ 0 ≤ y ∧ y / 10000 = z) := by
        rcases hk with hk | ⟨hk, hk2⟩
        · by_cases hy0 : y < 0
          · exact .inl ⟨hk, hy0⟩
          · exact .inr (.inl ⟨hk, by omega, hz2 (by omega)⟩)
        · exact .inr (.inr ⟨hk, by omega, hz2 (by omega)⟩)
      clear hz2
      rcases hk with ⟨hk, hk2⟩ | ⟨hk, hk2, hk3⟩ | ⟨hk, hk2, hk3⟩
      all_goals
        go_enter Tryz.func74, Tryz.ntmps74
        go_wp2_with (first | (go_at_call 133; fail))
        go_at_call 133
        refine (HP.out _).mono ?_
        rintro e w1 ⟨rfl, hb1⟩
        go_wp2_with (first | (go_at_call 65; fail))
        go_at_call 65
        refine (HC.out _).mono ?_
        rintro e w2 ⟨rfl, hb2⟩
        obtain ⟨hc, hf, hlt, hb0⟩ := out_ready (hb1.trans (hb2.mono hb1.size))
        clear hb1 hb2
        go_wp2
        obtain ⟨e0, e1, e2⟩ := set_three w2 w.heap.size (.int .i64 ya) (.int .i64 yb) (.string yc) (hc 0) (hc 1) (hc 2)
        have hbf := set_below hb0 (.int .i64 ya) (.int .i64 yb) (.string yc)
        generalize (((w2.setCell ⟨w.heap.size, 0, none⟩ (.int .i64 ya)).setCell ⟨w.heap.size, 1, none⟩ (.int .i64 yb)).setCell ⟨w.heap.size, 2, none⟩ (.string yc)) = wf at *
        refine bodyPost_ret (v := .agg #[.int .i64 ya, .int .i64 yb, .string yc]) (by simp [results, Tryz.results74, go_sem, e0, e1, e2]) rfl ?_
        exact ⟨rfl, hbf⟩
  · have hm2 : (y.tmod 10000 == 0) = false := by simpa using hm
    rw [powerV_rest hm] at h
    subst h
    simp only [V.tell]
    go_enter Tryz.func74, Tryz.ntmps74
    go_wp2
    go_returns
    exact ⟨by rfl, by go_grown⟩
end Go.Proofs.YtkobkeopajohiaaGreatDoor
namespace Go.Proofs.YtkobkeopajohiaaGreatDoor
open Go.RowKit Go.Lib

theorem trimR_cons (c x : UInt8) (l : List UInt8) : trimRightB (c :: l) x = if trimRightB l x = [] ∧ c = x then [] else c :: trimRightB l x := by
  unfold trimRightB
  rw [List.reverse_cons, List.dropWhile_append]
  by_cases h : (List.dropWhile (fun y => y == x) l.reverse) = []
  · by_cases hc : c = x
    · subst hc; simp [h]
    · have : (c == x) = false := by simp [hc]
      simp [h, hc, List.dropWhile, this]
  · have : (List.dropWhile (fun y => y == x) l.reverse).isEmpty = false := by simpa using h
    simp [this]
    intro h2
    exact absurd (by simpa using h2) h
theorem trimR_snoc (c x : UInt8) (l : List UInt8) : trimRightB (l ++ [c]) x = if c = x then trimRightB l x else l ++ [c] := by
  unfold trimRightB
  rw [List.reverse_append]
  by_cases hc : c = x
  · subst hc; simp
  · have : (c == x) = false := by simp [hc]
    simp [hc, this]
theorem trim_swap (x : UInt8) : ∀ l : List UInt8, trimRightB (trimLeftB l x) x = trimB l x
  | [] => rfl
  | c :: l => by
    have ih := trim_swap x l
    unfold trimB at ih ⊢
    rw [trimR_cons]
    by_cases hc : c = x
    · subst hc
      have e1 : trimLeftB (c :: l) c = trimLeftB l c := by simp [trimLeftB]
      rw [e1, ih]
      by_cases h : trimRightB l c = []
      · rw [if_pos ⟨h, rfl⟩, h]
      · rw [if_neg (fun e => h e.1)]
        simp [trimLeftB]
    · have hf : (c == x) = false := by simp [hc]
      have e1 : trimLeftB (c :: l) x = c :: l := by simp [trimLeftB, List.dropWhile, hf]
      rw [e1, trimR_cons, if_neg (fun e => hc e.2)]
      simp [trimLeftB, List.dropWhile, hf]
theorem refTrim_any (s : ByteArray) (w : World) (hs : s.size ≤ 4294967) :
    Calls Tryz.prog 127 #[.string s] w fun e w' => e = .returned (.string ⟨(Lib.trimB s.data.toList 32).toArray⟩) ∧ w = w' := by
  generalize hR : Lib.trimB s.data.toList 32 = R
  have hR2 := trim_swap 32 s.data.toList
  rw [hR] at hR2
  have HR := Lib.hid hR2
  clear hR hR2
  go_enter Tryz.func127, Tryz.ntmps127
  go_wp2
  go_loop [0] (fun v => ∃ t : ByteArray, v = .string t ∧ t.size ≤ s.size ∧ Hid (trimRightB (trimLeftB t.data.toList 32) 32 = R)) (fun v => match v with | .string t => t.size | _ => 0)
  case atStart => exact ⟨s, rfl, Nat.le_refl _, HR.out⟩
  case round =>
    obtain ⟨t, rfl, ht, hinv⟩ := hrel
    have key : (∃ h0 : 0 < t.size, (((t[0]'h0).toNat : Int) == 32) = true ∧ Hid (trimRightB (trimLeftB (t.extract 1 t.size).data.toList 32) 32 = R) ∧ Hid ((t.extract 1 t.size).size = t.size - 1)) ∨
        ((¬ 0 < t.size ∨ ∃ h0 : 0 < t.size, (((t[0]'h0).toNat : Int) == 32) = false) ∧ Hid (trimRightB t.data.toList 32 = R)) := by
      by_cases h0 : 0 < t.size
      · have hl : 0 < t.data.toList.length := by rw [← size_eq]; exact h0
        obtain ⟨c, l, hcl⟩ : ∃ c l, t.data.toList = c :: l := by
          cases hh : t.data.toList with
          | nil => rw [hh] at hl; simp at hl
          | cons c l => exact ⟨c, l, rfl⟩
        have hx : (t.extract 1 t.size).data.toList = l := by
          rw [extract_data, hcl]
          simp only [List.drop_succ_cons, List.drop_zero]
          exact List.take_of_length_le (by have := congrArg List.length hcl; rw [← size_eq, List.length_cons] at this; omega)
        have hce : t[0]'h0 = c := by
          have e1 : t.data.toList[0]'hl = c := by simp only [hcl]; rfl
          rw [← e1]; simp; rfl
        by_cases h32 : c = 32
        · refine .inl ⟨h0, by rw [hce, h32]; rfl, Lib.hid ?_, Lib.hid ?_⟩
          · rw [hx, ← hinv.out, hcl, h32]; simp [trimLeftB]
          · rw [size_eq, hx, size_eq, hcl]; rfl
        · have hf : (c == 32) = false := by simp [h32]
          refine .inr ⟨.inr ⟨h0, ?_⟩, Lib.hid ?_⟩
          · rw [hce, beq_eq_false_iff_ne]
            intro e
            exact h32 (by rw [← UInt8.toNat_inj]; show c.toNat = 32; omega)
          · rw [← hinv.out, hcl]; simp [trimLeftB, List.dropWhile, hf]
      · refine .inr ⟨.inl h0, Lib.hid ?_⟩
        have : t.data.toList = [] := List.eq_nil_of_length_eq_zero (by rw [← size_eq]; omega)
        rw [← hinv.out, this]; rfl
    rcases key with ⟨h0, hb, HS, HZ⟩ | ⟨hno, HS⟩
    · clear hinv
      go_wp2
      go_round
      case rel => exact ⟨_, rfl, by rw [HZ.out]; omega, HS.out⟩
      case measure => show (t.extract 1 t.size).size < t.size; rw [HZ.out]; omega
    · clear hinv
      rcases hno with h0 | ⟨h0, hb⟩
      all_goals
        go_wp2
        go_loop [0] (fun v => ∃ t : ByteArray, v = .string t ∧ t.size ≤ s.size ∧ Hid (trimRightB t.data.toList 32 = R)) (fun v => match v with | .string t => t.size | _ => 0)
        case atStart => exact ⟨t, rfl, ht, HS⟩
        case round =>
          obtain ⟨t2, rfl, ht2, hinv⟩ := hrel
          clear HS ht
          have key : (∃ h0 : t2.size - 1 < t2.size, 0 < t2.size ∧ (((t2[t2.size - 1]'h0).toNat : Int) == 32) = true ∧ Hid (trimRightB (t2.extract 0 (t2.size - 1)).data.toList 32 = R) ∧ Hid ((t2.extract 0 (t2.size - 1)).size = t2.size - 1)) ∨
              ((¬ 0 < t2.size ∨ ∃ h0 : t2.size - 1 < t2.size, 0 < t2.size ∧ (((t2[t2.size - 1]'h0).toNat : Int) == 32) = false) ∧ Hid (t2.data.toList = R)) := by
            by_cases h0 : 0 < t2.size
            · have hlt : t2.size - 1 < t2.size := by omega
              have hl : t2.size - 1 < t2.data.toList.length := by rw [← size_eq]; exact hlt
              obtain ⟨l, c, hcl⟩ : ∃ l c, t2.data.toList = l ++ [c] := by
                rcases List.eq_nil_or_concat t2.data.toList with hh | ⟨l, c, hh⟩
                · rw [hh] at hl; simp at hl
                · exact ⟨l, c, by rw [hh]; simp⟩
              have hlen : l.length = t2.size - 1 := by have := congrArg List.length hcl; rw [← size_eq, List.length_append] at this; simp at this; omega
              have hx : (t2.extract 0 (t2.size - 1)).data.toList = l := by
                rw [extract_data, hcl, ← hlen]
                simp
              have hce : t2[t2.size - 1]'hlt = c := by
                have e1 : t2.data.toList[t2.size - 1]'hl = c := by
                  simp only [hcl, ← hlen]
                  simp
                rw [← e1]; simp; rfl
              by_cases h32 : c = 32
              · refine .inl ⟨hlt, h0, by rw [hce, h32]; rfl, Lib.hid ?_, Lib.hid ?_⟩
                · rw [hx, ← hinv.out, hcl, h32, trimR_snoc, if_pos rfl]
                · rw [size_eq, hx, hlen]
              · refine .inr ⟨.inr ⟨hlt, h0, ?_⟩, Lib.hid ?_⟩
                · rw [hce, beq_eq_false_iff_ne]
                  intro e
                  exact h32 (by rw [← UInt8.toNat_inj]; show c.toNat = 32; omega)
                · rw [← hinv.out, hcl, trimR_snoc, if_neg h32]
            · refine .inr ⟨.inl h0, Lib.hid ?_⟩
              have : t2.data.toList = [] := List.eq_nil_of_length_eq_zero (by rw [← size_eq]; omega)
              rw [← hinv.out, this]; rfl
          rcases key with ⟨k0, k1, kb, KS, KZ⟩ | ⟨kno, KS⟩
          · clear hinv
            have k2 : 1 ≤ (t2.size : Int) := by omega
            have k4 : t2.size ≤ 4294967 := by omega
            have k3 : ((t2.size : Int) - 1).toNat = t2.size - 1 := by omega
            go_wp2
            go_round
            case rel => exact ⟨_, rfl, by rw [KZ.out]; omega, KS.out⟩
            case measure => show (t2.extract 0 (t2.size - 1)).size < t2.size; rw [KZ.out]; omega
          · clear hinv
            have k4 : t2.size ≤ 4294967 := by omega
            have k3 : ((t2.size : Int) - 1).toNat = t2.size - 1 := by omega
            rcases kno with k0 | ⟨k0, k1, kb⟩
            all_goals
              go_wp2
              go_ret
              exact ⟨ret_str KS.out, rfl⟩
/-- a failure's number, a value's number: within bounds -/
theorem asNum_bd (v : V) (hg : v.good) : -999999999999999999 ≤ v.asNum.1 ∧ v.asNum.1 ≤ 999999999999999999 := by
  cases v with
  | num n => exact hg
  | text s =>
    show -999999999999999999 ≤ (if (Tab.parse (Lib.trimB s.data.toList 32)).2 then ((Tab.parse (Lib.trimB s.data.toList 32)).1, (0 : Int)) else (0, 3)).1 ∧ _
    have h : -999999999999999999 ≤ (Tab.parse (Lib.trimB s.data.toList 32)).1 ∧ (Tab.parse (Lib.trimB s.data.toList 32)).1 ≤ 999999999999999999 := by
      unfold Tab.parse Tab.parseBody
      split
      · simp
      · unfold Tab.valOf
        split
        · simp
        · exact Tab.made_bd _ _
    simp only [V.asNum]
    split
    · exact h
    · simp
  | bool b => cases b <;> simp [V.asNum]
  | fail n => simp [V.asNum]
  | blank => simp [V.asNum]
set_option maxHeartbeats 1600000 in
set_option maxRecDepth 100000 in
theorem refAsNumber_any (v : V) (n f : Int) (w : World) (hs : v.short 4294967) (h : v.asNum = (n, f)) :
    Calls Tryz.prog 62 #[v.tell] w fun e w' => e = .returned (.tuple #[.int .i64 n, .int .i64 f]) ∧ Below w.heap.size w w' := by
  rcases v with a | s | (_ | _) | a | _
  case text =>
    have hs' : s.size ≤ 4294967 := hs
    obtain ⟨p, ok, hp⟩ : ∃ p ok, Tab.parse (Lib.trimB s.data.toList 32) = (p, ok) := ⟨_, _, rfl⟩
    have hz : (⟨(Lib.trimB s.data.toList 32).toArray⟩ : ByteArray).size ≤ 4294967 := by
      have := trimB_le s.data.toList 32
      rw [size_eq]
      show (Lib.trimB s.data.toList 32).length ≤ _
      rw [← size_eq] at this
      omega
    have HT := Lib.hid fun w => refTrim_any s w hs'
    have HP : Hid (∀ w, Calls Tryz.prog 126 #[.string ⟨(Lib.trimB s.data.toList 32).toArray⟩] w fun e w' => e = .returned (.tuple #[.int .i64 p, .bool ok]) ∧ Below w.heap.size w w') := Lib.hid fun w => by
      have := refParse_any ⟨(Lib.trimB s.data.toList 32).toArray⟩ w hz
      rw [show Tab.parse (⟨(Lib.trimB s.data.toList 32).toArray⟩ : ByteArray).data.toList = (p, ok) from hp] at this
      exact this
    have hnf : (n, f) = if ok then (p, 0) else (0, 3) := by rw [← h]; simp [V.asNum, hp]
    clear h hz hp hs hs'
    generalize (Lib.trimB s.data.toList 32) = t at *
    simp only [V.tell]
    cases ok <;> simp only [if_true, Bool.false_eq_true, if_false, Prod.mk.injEq] at hnf <;> obtain ⟨rfl, rfl⟩ := hnf <;>
    · go_enter Tryz.func62, Tryz.ntmps62
      go_wp2_with (first | (go_at_call 127; refine (HT.out _).mono ?_; rintro e w' ⟨rfl, rfl⟩) | (go_at_call 126; fail))
      go_at_call 126
      refine (HP.out _).mono ?_
      rintro e w2 ⟨rfl, hb2⟩
      have hb12 := ((Below.refl w.heap.size w).alloc (Nat.le_refl _) _).trans (hb2.mono (by simp))
      go_wp2
      go_ret2
      exact ⟨rfl, hb12⟩
  all_goals
    simp only [V.asNum, if_true, Bool.false_eq_true, if_false, Prod.mk.injEq] at h
    obtain ⟨rfl, rfl⟩ := h
    clear hs
    simp only [V.tell, if_true, Bool.false_eq_true, if_false]
    go_enter Tryz.func62, Tryz.ntmps62
    go_wp2
    try (go_quiet (fail); go_wp2)
    go_ret2
    exact ⟨rfl, by first | exact below_drewN ((Below.refl _ _).alloc (Nat.le_refl _) _) _ | go_grown⟩
/-- what a value is as a text, and its failure (0: it is one) -/
def V.asTx : V → ByteArray × Int
  | .num n => (⟨(Tab.text n).toArray⟩, 0) | .text s => (s, 0) | .bool b => (if b then ⟨#[84, 82, 85, 69]⟩ else ⟨#[70, 65, 76, 83, 69]⟩, 0) | .fail n => (⟨#[]⟩, n) | .blank => (⟨#[]⟩, 0)
set_option maxRecDepth 100000 in
theorem asText_is (v : V) (s : ByteArray) (f : Int) (w : World) (hP : GP w) (hg : v.good) (h : v.asTx = (s, f)) :
    Calls Tryz.prog 28 #[v.val] w fun e w' => e = .returned (.tuple #[.string s, .int .i64 f]) ∧ Below w.heap.size w w' := by
  rcases v with a | s | (_ | _) | a | _
  case num =>
    simp only [V.asTx, Prod.mk.injEq] at h
    obtain ⟨rfl, rfl⟩ := h
    have HT := Lib.hid fun w hP => text_is a ⟨(Tab.text a).toArray⟩ w hP hg rfl
    clear hg
    generalize (⟨(Tab.text a).toArray⟩ : ByteArray) = t at *
    simp only [V.val]
    go_enter Tryz.func28, Tryz.ntmps28
    go_wp2_with (first | (go_at_call 102; fail))
    go_at_call 102
    refine (HT.out _ hP).mono ?_
    rintro e w1 ⟨rfl, hb⟩
    go_wp2
    go_ret2
    exact ⟨rfl, hb⟩
  all_goals
    simp only [V.asTx, if_true, Bool.false_eq_true, if_false, Prod.mk.injEq] at h
    obtain ⟨rfl, rfl⟩ := h
    clear hg hP
    simp only [V.val]
    go_enter Tryz.func28, Tryz.ntmps28
    go_wp2
    go_ret2
    exact ⟨rfl, by go_grown⟩
set_option maxRecDepth 100000 in
theorem refAsText_any (v : V) (s : ByteArray) (f : Int) (w : World) (hg : v.good) (h : v.asTx = (s, f)) :
    Calls Tryz.prog 83 #[v.tell] w fun e w' => e = .returned (.tuple #[.string s, .int .i64 f]) ∧ Below w.heap.size w w' := by
  rcases v with a | s | (_ | _) | a | _
  case num =>
    simp only [V.asTx, Prod.mk.injEq] at h
    obtain ⟨rfl, rfl⟩ := h
    have HT := Lib.hid fun w => refText_any a w hg
    clear hg
    generalize (⟨(Tab.text a).toArray⟩ : ByteArray) = t at *
    simp only [V.tell]
    go_enter Tryz.func83, Tryz.ntmps83
    go_wp2_with (first | (go_at_call 139; fail))
    go_at_call 139
    refine (HT.out _).mono ?_
    rintro e w1 ⟨rfl, hb⟩
    have hb12 := ((Below.refl w.heap.size w).alloc (Nat.le_refl _) _).trans (hb.mono (by simp))
    go_wp2
    go_ret2
    exact ⟨rfl, hb12⟩
  all_goals
    simp only [V.asTx, if_true, Bool.false_eq_true, if_false, Prod.mk.injEq] at h
    obtain ⟨rfl, rfl⟩ := h
    clear hg
    simp only [V.tell, if_true, Bool.false_eq_true, if_false]
    go_enter Tryz.func83, Tryz.ntmps83
    go_wp2
    try (go_quiet (fail); go_wp2)
    go_ret2
    exact ⟨rfl, by first | exact below_drewN ((Below.refl _ _).alloc (Nat.le_refl _) _) _ | go_grown⟩
end Go.Proofs.YtkobkeopajohiaaGreatDoor
