/-
  CONTRACTS of the reference's functions of numbers of layer 16: up, near, number, even, fact.
-/
import Derived.Test.YtkobkeopajohiaaGreatDoorS4
import Derived.Test.YtkobkeopajohiaaGreatDoorND
namespace Go.Proofs.YtkobkeopajohiaaGreatDoor
open Go.RowKit Go.Lib

theorem refNumber_any (n : Int) (v : V) (w : World) (hv : cnt (intS n) = v) :
    Calls Tryz.prog 73 #[.int .i64 n] w fun e w' => e = .returned v.tell ∧ Below w.heap.size w w' := by
  subst hv
  unfold intS
  by_cases hb : -99999999999999 ≤ n ∧ n ≤ 99999999999999
  · rw [if_pos hb]
    obtain ⟨h1, h2⟩ := hb
    have h3 : ¬ 99999999999999 < n := by omega
    have h4 : ¬ n < -99999999999999 := by omega
    simp only [cnt, V.tell, if_true]
    go_enter Tryz.func73, Tryz.ntmps73
    go_wp2
    go_returns
    exact ⟨by rfl, by go_grown⟩
  · rw [if_neg hb]
    simp only [cnt, V.tell, Bool.false_eq_true, if_false]
    have h3 : 99999999999999 < n ∨ (¬ 99999999999999 < n ∧ n < -99999999999999) := by omega
    rcases h3 with h3 | ⟨h3, h4⟩
    all_goals
      go_enter Tryz.func73, Tryz.ntmps73
      go_wp2
      go_returns
      exact ⟨by rfl, by go_grown⟩
/-- the step of so many places, closed -/
theorem stepW_is : ∀ k : Fin 24, stepW (3 - (k.val : Int)) = if k.val ≤ 16 then (((10 ^ (k.val + 1) : Nat) : Int), true) else (0, false) := by decide +kernel
theorem stepW_eq (p : Int) (h0 : -20 ≤ p) (h3 : p < 4) : stepW p = if -13 ≤ p then (((10 ^ (4 - p).toNat : Nat) : Int), true) else (0, false) := by
  have := stepW_is ⟨(3 - p).toNat, by omega⟩
  simp only at this
  rw [show (3 : Int) - ((3 - p).toNat : Int) = p by omega] at this
  rw [this]
  by_cases h : -13 ≤ p
  · rw [if_pos h, if_pos (by omega), show (3 - p).toNat + 1 = (4 - p).toNat by omega]
  · rw [if_neg h, if_neg (by omega)]
set_option maxHeartbeats 3200000 in
set_option maxRecDepth 100000 in
theorem refUp_any (a p : Int) (v : V) (w : World) (ha : -999999999999999999 ≤ a ∧ a ≤ 999999999999999999) (hp : -20 ≤ p ∧ p ≤ 20) (hv : awayW a p = v) :
    Calls Tryz.prog 69 #[.int .i64 a, .int .i64 p] w fun e w' => e = .returned v.tell ∧ Below w.heap.size w w' := by
  have HT := Lib.hid fun w => refTrunc_any a p w ha
  obtain ⟨t0, t1⟩ := trunc_bd a p ha
  have h4 : 4 ≤ p → Tab.truncS a p = a := fun h => by unfold Tab.truncS; rw [if_neg (by omega), if_pos h]
  obtain ⟨ya, yb, yc, ev⟩ := tell_form v
  unfold awayW at hv
  by_cases hta : Tab.truncS a p = a
  · rw [if_pos hta] at hv
    rw [hta] at HT
    have HN := Lib.hid fun w => refNum_any a w
    rw [hv, ev] at HN
    rw [ev]
    have hcc : (a == a) = true := by simp
    clear hta h4 t0 t1 hv ev
    go_enter Tryz.func69, Tryz.ntmps69
    go_wp2_with (first | (go_at_call 67; fail))
    go_at_call 67
    refine (HT.out _).mono ?_
    rintro e w1 ⟨rfl, hb1⟩
    go_wp2_with (first | (go_at_call 63; fail))
    go_at_call 63
    refine (HN.out _).mono ?_
    rintro e w2 ⟨rfl, hbx⟩
    have hb2 := hb1.trans (hbx.mono hb1.size)
    clear hbx 
    obtain ⟨hc, hf, hlt, hb0⟩ := out_ready hb2
    go_wp2
    obtain ⟨e0, e1, e2⟩ := set_three w2 w.heap.size (.int .i64 ya) (.int .i64 yb) (.string yc) (hc 0) (hc 1) (hc 2)
    have hbf := set_below hb0 (.int .i64 ya) (.int .i64 yb) (.string yc)
    generalize (((w2.setCell ⟨w.heap.size, 0, none⟩ (.int .i64 ya)).setCell ⟨w.heap.size, 1, none⟩ (.int .i64 yb)).setCell ⟨w.heap.size, 2, none⟩ (.string yc)) = wf at *
    refine bodyPost_ret (v := .agg #[.int .i64 ya, .int .i64 yb, .string yc]) (by simp [results, Tryz.results69, go_sem, e0, e1, e2]) rfl ?_
    exact ⟨rfl, hbf⟩
  · rw [if_neg hta] at hv
    have hn4 : p < 4 := by
      by_cases h : 4 ≤ p
      · exact absurd (h4 h) hta
      · omega
    have hcc : (Tab.truncS a p == a) = false := by rw [beq_eq_false_iff_ne]; exact hta
    rw [stepW_eq p hp.1 hn4] at hv
    generalize Tab.truncS a p = t at *
    clear hta h4
    have HF := Lib.hid fun w => refFail_any 2 w
    have HV := Lib.hid hv
    clear hv
    rw [ev]
    have HE := Lib.hid ev
    clear ev
    obtain ⟨p0, p1⟩ := hp
    go_enter Tryz.func69, Tryz.ntmps69
    go_wp2_with (first | (go_at_call 67; fail))
    go_at_call 67
    refine (HT.out _).mono ?_
    rintro e w1 ⟨rfl, hb1⟩
    go_wp2
    go_loop [6, 7] (fun vs vi => ∃ (k s : Nat) (i : Int), vs = .int .i64 s ∧ vi = .int .i64 i ∧ i ≤ p + k ∧ p + k ≤ i ∧ i ≤ 4 ∧ k ≤ 17 ∧ Hid (s = 10 ^ k)) (fun _ vi => (4 - RowKit.intOf vi).toNat)
    case atStart => exact ⟨0, 1, p, rfl, rfl, by omega, by omega, by omega, by omega, Lib.hid rfl⟩
    case round =>
      obtain ⟨k, s, i, rfl, rfl, hi1, hi2, hi4, hk17, hs⟩ := hrel
      have hsb : s ≤ 100000000000000000 := by rw [hs.out]; exact Nat.le_trans (Nat.pow_le_pow_right (by omega) hk17) (by decide)
      by_cases hi : i < 4
      · by_cases hk : k = 17
        · subst hk
          have hs17 : s = 100000000000000000 := by rw [hs.out]
          subst hs17
          have hvv := HV.out
          rw [if_neg (show ¬ -13 ≤ p by omega)] at hvv
          simp only [Bool.false_eq_true, if_false] at hvv
          have hev := HE.out
          have HF2 := Lib.hid HF.out
          rw [hvv, hev] at HF2
          clear hvv hev HV HE HF hs
          go_wp2_with (first | (go_at_call 61; fail))
          go_at_call 61
          refine (HF2.out _).mono ?_
          rintro e w2 ⟨rfl, hbx⟩
          have hb2 := hb1.trans (hbx.mono hb1.size)
          clear hbx 
          obtain ⟨hc, hf, hlt, hb0⟩ := out_ready hb2
          go_wp2
          obtain ⟨e0, e1, e2⟩ := set_three w2 w.heap.size (.int .i64 ya) (.int .i64 yb) (.string yc) (hc 0) (hc 1) (hc 2)
          have hbf := set_below hb0 (.int .i64 ya) (.int .i64 yb) (.string yc)
          generalize (((w2.setCell ⟨w.heap.size, 0, none⟩ (.int .i64 ya)).setCell ⟨w.heap.size, 1, none⟩ (.int .i64 yb)).setCell ⟨w.heap.size, 2, none⟩ (.string yc)) = wf at *
          refine bodyPost_ret (v := .agg #[.int .i64 ya, .int .i64 yb, .string yc]) (by simp [results, Tryz.results69, go_sem, e0, e1, e2]) rfl ?_
          exact ⟨rfl, hbf⟩
        · have hsb2 : s ≤ 10000000000000000 := by rw [hs.out]; exact Nat.le_trans (Nat.pow_le_pow_right (by omega) (show k ≤ 16 by omega)) (by decide)
          have HS : Hid (s * 10 = 10 ^ (k + 1)) := Lib.hid (by rw [hs.out, Nat.pow_succ])
          clear hs
          go_wp2
          go_round
          case rel => exact ⟨k + 1, s * 10, i + 1, by go_num, rfl, by omega, by omega, by omega, by omega, HS⟩
          case measure => simp [RowKit.intOf]; omega
      · obtain rfl : i = 4 := by omega
        have hkp : (4 - p).toNat = k := by omega
        have hvv := HV.out
        rw [if_pos (show -13 ≤ p by omega), hkp, ← hs.out] at hvv
        simp only [if_true] at hvv
        have hev := HE.out
        clear HV HE hs HF
        by_cases hneg : a < 0
        · rw [if_pos hneg] at hvv
          obtain ⟨m, ok, hm⟩ : ∃ m ok, Tab.fit (t - (s : Int)) = (m, ok) := ⟨_, _, rfl⟩
          rw [hm] at hvv
          have HA := Lib.hid fun w => refAdd_any t (-(s : Int)) m ok w (by omega) (by rw [← hm]; rfl)
          have HC := Lib.hid fun w => refCounted_any m ok v w hvv
          rw [hev] at HC
          clear hvv hm hev
          go_wp2_with (first | (go_at_call 97; refine (HA.out _).mono ?_; rintro e w' ⟨rfl, rfl⟩) | (go_at_call 65; fail))
          go_at_call 65
          refine (HC.out _).mono ?_
          rintro e w2 ⟨rfl, hbx⟩
          have hb2 := hb1.trans (hbx.mono hb1.size)
          clear hbx 
          obtain ⟨hc, hf, hlt, hb0⟩ := out_ready hb2
          go_wp2
          obtain ⟨e0, e1, e2⟩ := set_three w2 w.heap.size (.int .i64 ya) (.int .i64 yb) (.string yc) (hc 0) (hc 1) (hc 2)
          have hbf := set_below hb0 (.int .i64 ya) (.int .i64 yb) (.string yc)
          generalize (((w2.setCell ⟨w.heap.size, 0, none⟩ (.int .i64 ya)).setCell ⟨w.heap.size, 1, none⟩ (.int .i64 yb)).setCell ⟨w.heap.size, 2, none⟩ (.string yc)) = wf at *
          refine bodyPost_ret (v := .agg #[.int .i64 ya, .int .i64 yb, .string yc]) (by simp [results, Tryz.results69, go_sem, e0, e1, e2]) rfl ?_
          exact ⟨rfl, hbf⟩
        · rw [if_neg hneg] at hvv
          obtain ⟨m, ok, hm⟩ : ∃ m ok, Tab.fit (t + (s : Int)) = (m, ok) := ⟨_, _, rfl⟩
          rw [hm] at hvv
          have HA := Lib.hid fun w => refAdd_any t (s : Int) m ok w (by omega) hm
          have HC := Lib.hid fun w => refCounted_any m ok v w hvv
          rw [hev] at HC
          clear hvv hm hev
          go_wp2_with (first | (go_at_call 97; refine (HA.out _).mono ?_; rintro e w' ⟨rfl, rfl⟩) | (go_at_call 65; fail))
          go_at_call 65
          refine (HC.out _).mono ?_
          rintro e w2 ⟨rfl, hbx⟩
          have hb2 := hb1.trans (hbx.mono hb1.size)
          clear hbx 
          obtain ⟨hc, hf, hlt, hb0⟩ := out_ready hb2
          go_wp2
          obtain ⟨e0, e1, e2⟩ := set_three w2 w.heap.size (.int .i64 ya) (.int .i64 yb) (.string yc) (hc 0) (hc 1) (hc 2)
          have hbf := set_below hb0 (.int .i64 ya) (.int .i64 yb) (.string yc)
          generalize (((w2.setCell ⟨w.heap.size, 0, none⟩ (.int .i64 ya)).setCell ⟨w.heap.size, 1, none⟩ (.int .i64 yb)).setCell ⟨w.heap.size, 2, none⟩ (.string yc)) = wf at *
          refine bodyPost_ret (v := .agg #[.int .i64 ya, .int .i64 yb, .string yc]) (by simp [results, Tryz.results69, go_sem, e0, e1, e2]) rfl ?_
          exact ⟨rfl, hbf⟩
set_option maxHeartbeats 1600000 in
set_option maxRecDepth 100000 in
theorem refNear_any (A S : Nat) (n : Int) (ok : Bool) (w : World) (hA : A ≤ 999999999999999999) (hS : S ≤ 999999999999999999) (hS1 : 1 ≤ S) (h : Tab.fit (nearX A S : Int) = (n, ok)) :
    Calls Tryz.prog 71 #[.int .i64 A, .int .i64 S] w fun e w' => e = .returned (.tuple #[.int .i64 n, .bool ok]) ∧ w = w' := by
  obtain ⟨r, hr⟩ : ∃ r, A % S = r := ⟨_, rfl⟩
  have hrS : r < S := by rw [← hr]; exact Nat.mod_lt _ hS1
  have hrA : r ≤ A := by rw [← hr]; exact Nat.mod_le _ _
  have hri : (A : Int) % (S : Int) = (r : Int) := by rw [← hr]; rfl
  obtain ⟨low, hl⟩ : ∃ l, A - r = l := ⟨_, rfl⟩
  have hli : (A : Int) - (r : Int) = (low : Int) := by omega
  have hli2 : (A : Int) - (low : Int) = (r : Int) := by omega
  unfold nearX at h
  rw [hr, hl] at h
  have hz : ¬ (S : Int) = 0 := by omega
  by_cases hup : S ≤ 2 * r
  · rw [if_pos hup] at h
    have hupi : (S : Int) ≤ 2 * (r : Int) := by omega
    have HA := Lib.hid fun w => refAdd_any (low : Int) (S : Int) n ok w (by omega) (by rw [← h]; rfl)
    clear h hup hr hl
    go_enter Tryz.func71, Tryz.ntmps71
    go_wp2_with (first | (go_at_call 97; refine (HA.out _).mono ?_; rintro e w' ⟨rfl, rfl⟩))
    go_ret2
    exact ⟨rfl, rfl⟩
  · rw [if_neg hup] at h
    have hupi : ¬ (S : Int) ≤ 2 * (r : Int) := by omega
    obtain ⟨rfl, rfl⟩ : (low : Int) = n ∧ true = ok := by
      unfold Tab.fit at h
      rw [if_pos (by omega)] at h
      exact Prod.mk.inj h
    clear h hup hr hl
    go_enter Tryz.func71, Tryz.ntmps71
    go_wp2
    go_ret2
    exact ⟨rfl, rfl⟩
end Go.Proofs.YtkobkeopajohiaaGreatDoor
