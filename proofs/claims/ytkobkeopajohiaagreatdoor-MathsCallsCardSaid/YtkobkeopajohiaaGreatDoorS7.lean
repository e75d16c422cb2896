/-
  CONTRACTS of the reference's functions of numbers of layer 16: even, fact, many.
-/
import Derived.Test.YtkobkeopajohiaaGreatDoorS3
import Derived.Test.YtkobkeopajohiaaGreatDoorS5
import Derived.Test.YtkobkeopajohiaaGreatDoorS6
namespace Go.Proofs.YtkobkeopajohiaaGreatDoor
open Go.RowKit Go.Lib

set_option maxHeartbeats 3200000 in
set_option maxRecDepth 100000 in
theorem refEven_any (a : Int) (odd : Nat) (v : V) (w : World) (ho : odd ≤ 1) (ha : -999999999999999999 ≤ a ∧ a ≤ 999999999999999999) (hv : pairV a odd = v) :
    Calls Tryz.prog 77 #[.int .i64 a, .int .i64 odd] w fun e w' => e = .returned v.tell ∧ Below w.heap.size w w' := by
  obtain ⟨ya, yb, yc, ev⟩ := tell_form v
  have HS := Lib.hid fun w => refSize_any a w (by omega) (by omega)
  unfold pairV pairN at hv
  have hab : a.natAbs ≤ 999999999999999999 := by omega
  obtain ⟨m, hm⟩ : ∃ m, a.natAbs / 10000 = m := ⟨_, rfl⟩
  have hmi : (a.natAbs : Int) / 10000 = (m : Int) := by rw [← hm]; rfl
  rw [hm] at hv
  have hmb : m ≤ 99999999999999 := by omega
  have hA0 : (0 : Int) ≤ (a.natAbs : Int) := by omega
  have hA1 : (a.natAbs : Int) ≤ 999999999999999999 := by omega
  generalize (a.natAbs : Int) = A at *
  obtain ⟨k, hk, hik⟩ : ∃ k : Bool, (a.tmod 10000 != 0) = k ∧ (if a.tmod 10000 = 0 then 0 else 1 : Nat) = (if k then 1 else 0) := by
    by_cases h : a.tmod 10000 = 0
    · exact ⟨false, by simpa using h, by rw [if_pos h]; rfl⟩
    · exact ⟨true, by simpa using h, by rw [if_neg h]; rfl⟩
  rw [hik] at hv
  obtain ⟨m1, hm1⟩ : ∃ m1, m + (if k then 1 else 0) = m1 := ⟨_, rfl⟩
  rw [hm1] at hv
  have hm1b : m1 ≤ 100000000000000 := by rw [← hm1]; split <;> omega
  obtain ⟨m2, hm2⟩ : ∃ m2, (if m1 % 2 = odd then m1 else m1 + 1) = m2 := ⟨_, rfl⟩
  simp only [hm2] at hv
  have hm2b : m2 ≤ 100000000000001 := by rw [← hm2]; split <;> omega
  obtain ⟨q, hq⟩ : ∃ q, (if a < 0 then -(m2 : Int) else (m2 : Int)) = q := ⟨_, rfl⟩
  rw [hq] at hv
  have hqb : -100000000000001 ≤ q ∧ q ≤ 100000000000001 := by rw [← hq]; split <;> omega
  have HN := Lib.hid fun w => refNumber_any q v w hv
  rw [ev] at HN ⊢
  have HK := Lib.hid hk
  clear hv hqb ev hik hk
  have HQ := Lib.hid hq
  clear hq
  -- how the rest is spelled
  have hrest : (a < 0 ∧ (a.tmod 10000 != 0) = k) ∨ (¬ a < 0 ∧ (a % 10000 != 0) = k) := by
    by_cases h : a < 0
    · exact .inl ⟨h, HK.out⟩
    · refine .inr ⟨h, ?_⟩
      have e := HK.out
      rw [Int.tmod_eq_emod_of_nonneg (by omega)] at e
      exact e
  clear HK
  cases k
  all_goals
    simp only [Bool.false_eq_true, if_false, if_true] at hm1
    by_cases hp : m1 % 2 = odd
    all_goals
      first | rw [if_pos hp] at hm2 | rw [if_neg hp] at hm2
      rcases hrest with ⟨hneg, hr⟩ | ⟨hneg, hr⟩
      all_goals
        have hQ := HQ.out
        first | rw [if_pos hneg] at hQ | rw [if_neg hneg] at hQ
        subst hm2
        subst hm1
        subst hQ
        clear HQ
        go_enter Tryz.func77, Tryz.ntmps77
        go_wp2_with (first
          | (go_at_call 64; refine (HS.out _).mono ?_; rintro e w' ⟨rfl, rfl⟩)
          | (go_at_call 73; fail))
        go_at_call 73
        refine (HN.out _).mono ?_
        rintro e w2 ⟨rfl, hb2⟩
        obtain ⟨hc, hf, hlt, hb0⟩ := out_ready hb2
        go_wp2
        obtain ⟨e0, e1, e2⟩ := set_three w2 w.heap.size (.int .i64 ya) (.int .i64 yb) (.string yc) (hc 0) (hc 1) (hc 2)
        have hbf := set_below hb0 (.int .i64 ya) (.int .i64 yb) (.string yc)
        generalize (((w2.setCell ⟨w.heap.size, 0, none⟩ (.int .i64 ya)).setCell ⟨w.heap.size, 1, none⟩ (.int .i64 yb)).setCell ⟨w.heap.size, 2, none⟩ (.string yc)) = wf at *
        refine bodyPost_ret (v := .agg #[.int .i64 ya, .int .i64 yb, .string yc]) (by simp [results, Tryz.results77, go_sem, e0, e1, e2]) rfl ?_
        exact ⟨rfl, hbf⟩
set_option maxHeartbeats 3200000 in
set_option maxRecDepth 100000 in
theorem refFact_any (a : Int) (v : V) (w : World) (ha : -999999999999999999 ≤ a ∧ a ≤ 999999999999999999) (hv : factV a = v) :
    Calls Tryz.prog 76 #[.int .i64 a] w fun e w' => e = .returned v.tell ∧ Below w.heap.size w w' := by
  obtain ⟨ya, yb, yc, ev⟩ := tell_form v
  have HF := Lib.hid fun w => refFail_any 2 w
  unfold factV at hv
  by_cases hn : a < 0
  · rw [if_pos hn] at hv
    rw [hv, ev] at HF
    rw [ev]
    clear hv ev
    go_enter Tryz.func76, Tryz.ntmps76
    go_wp2_with (first | (go_at_call 61; fail))
    go_at_call 61
    refine (HF.out _).mono ?_
    rintro e w2 ⟨rfl, hb2⟩
    obtain ⟨hc, hf, hlt, hb0⟩ := out_ready hb2
    go_wp2
    obtain ⟨e0, e1, e2⟩ := set_three w2 w.heap.size (.int .i64 ya) (.int .i64 yb) (.string yc) (hc 0) (hc 1) (hc 2)
    have hbf := set_below hb0 (.int .i64 ya) (.int .i64 yb) (.string yc)
    generalize (((w2.setCell ⟨w.heap.size, 0, none⟩ (.int .i64 ya)).setCell ⟨w.heap.size, 1, none⟩ (.int .i64 yb)).setCell ⟨w.heap.size, 2, none⟩ (.string yc)) = wf at *
    refine bodyPost_ret (v := .agg #[.int .i64 ya, .int .i64 yb, .string yc]) (by simp [results, Tryz.results76, go_sem, e0, e1, e2]) rfl ?_
    exact ⟨rfl, hbf⟩
  · rw [if_neg hn] at hv
    obtain ⟨n, hnn⟩ : ∃ n, a.toNat / 10000 = n := ⟨_, rfl⟩
    have hq : a / 10000 = (n : Int) := by omega
    rw [hnn] at hv
    have HC1 : Hid (n ≤ 16 → ∀ w, Calls Tryz.prog 63 #[.int .i64 (10000 * (fac n : Nat))] w fun e w' => e = .returned (.agg #[.int .i64 ya, .int .i64 yb, .string yc]) ∧ Below w.heap.size w w') := Lib.hid fun h w => by
      rw [if_neg (show ¬ 16 < n by omega)] at hv
      have := refNum_any (10000 * (fac n : Nat)) w
      rw [hv, ev] at this
      exact this
    have HC2 : Hid (16 < n → ∀ w, Calls Tryz.prog 61 #[.int .i64 2] w fun e w' => e = .returned (.agg #[.int .i64 ya, .int .i64 yb, .string yc]) ∧ Below w.heap.size w w') := Lib.hid fun h w => by
      rw [if_pos h] at hv
      have := refFail_any 2 w
      rw [hv, ev] at this
      exact this
    rw [ev]
    clear hv ev hnn HF
    go_enter Tryz.func76, Tryz.ntmps76
    go_wp2
    go_loopw [3, 4] (fun vp vi wr => ∃ (p : Int) (i : Nat), vp = .int .i64 p ∧ vi = .int .i64 i ∧ i ≤ 17 ∧ 2 ≤ i ∧ Hid (FactInv n p true i) ∧ Hid (Below (w.alloc (.cells #[.int .i64 0, .int .i64 0, .string { data := #[] }] 28)).heap.size (w.alloc (.cells #[.int .i64 0, .int .i64 0, .string { data := #[] }] 28)) wr)) (fun _ vi _ => 18 - (RowKit.intOf vi).toNat)
    case atStart => exact ⟨10000, 2, rfl, rfl, by omega, by omega, Lib.hid (.inl ⟨rfl, by decide, by omega, .inl rfl⟩), Lib.hid (Below.refl _ _)⟩
    case round =>
      obtain ⟨p, i, rfl, rfl, hi17, hi2, hinv, hw⟩ := hrel
      rcases hinv.out with ⟨_, hp, _, hin⟩ | ⟨h, _⟩
      · by_cases hle : i ≤ n
        · have hlei : (i : Int) ≤ n := by omega
          by_cases h16 : i ≤ 16
          · have hm := mul_fac ⟨i, by omega⟩ hi2
            simp only at hm
            rw [← hp] at hm
            have hpb : -999999999999999999 ≤ p ∧ p ≤ 999999999999999999 := by have := fac_bd ⟨i - 1, by omega⟩; simp only at this; omega
            have HM := Lib.hid fun w => refMul_any p ((i : Int) * 10000) _ _ w hpb (by omega) hm
            have HN : Hid (FactInv n (10000 * (fac i : Nat) : Int) true (i + 1)) := Lib.hid (.inl ⟨rfl, by rw [Nat.add_sub_cancel], by omega, .inr (by omega)⟩)
            clear hm hp hinv
            generalize (10000 * (fac i : Nat) : Int) = p2 at *
            go_wp2_with (first | (go_at_call 98; fail))
            go_at_call 98
            refine (HM.out _).mono ?_
            rintro e w2 ⟨rfl, hbx⟩
            have HB2 := Lib.hid (hw.out.trans (hbx.mono hw.out.size))
            clear hbx hw
            go_wp2
            go_roundw
            case rel => exact ⟨p2, i + 1, rfl, by go_num, by omega, by omega, HN, HB2⟩
            case measure => simp [RowKit.intOf]; omega
          · obtain rfl : i = 17 := by omega
            have hpb : -999999999999999999 ≤ p ∧ p ≤ 999999999999999999 := by rw [hp]; decide +kernel
            have hm := mul_fac17
            have hp2 : p = (10000 * (fac 16 : Nat) : Int) := hp
            rw [← hp2] at hm
            have HM : Hid (∀ w, Calls Tryz.prog 98 #[.int .i64 p, .int .i64 170000] w fun e w' => e = .returned (.tuple #[.int .i64 0, .bool false]) ∧ Below w.heap.size w w') := Lib.hid fun w => refMul_any p 170000 0 false w hpb (by omega) hm
            have HF2 := Lib.hid (HC2.out (by omega))
            clear hm hp hp2 hinv HC1 HC2
            go_wp2_with (first | (go_at_call 98; fail))
            go_at_call 98
            refine (HM.out _).mono ?_
            rintro e w2 ⟨rfl, hbx⟩
            have HB2 := hw.out.trans (hbx.mono hw.out.size)
            clear hbx hw
            go_wp2_with (first | (go_at_call 61; fail))
            go_at_call 61
            refine (HF2.out _).mono ?_
            rintro e w3 ⟨rfl, hbx⟩
            have hb3 := HB2.trans (hbx.mono HB2.size)
            clear hbx 
            obtain ⟨hc, hf, hlt, hb0⟩ := out_ready hb3
            go_wp2
            obtain ⟨e0, e1, e2⟩ := set_three w3 w.heap.size (.int .i64 ya) (.int .i64 yb) (.string yc) (hc 0) (hc 1) (hc 2)
            have hbf := set_below hb0 (.int .i64 ya) (.int .i64 yb) (.string yc)
            generalize (((w3.setCell ⟨w.heap.size, 0, none⟩ (.int .i64 ya)).setCell ⟨w.heap.size, 1, none⟩ (.int .i64 yb)).setCell ⟨w.heap.size, 2, none⟩ (.string yc)) = wf at *
            refine bodyPost_ret (v := .agg #[.int .i64 ya, .int .i64 yb, .string yc]) (by simp [results, Tryz.results76, go_sem, e0, e1, e2]) rfl ?_
            exact ⟨rfl, hbf⟩
        · have hlei : ¬ (i : Int) ≤ n := by omega
          have hpn : p = 10000 * (fac n : Nat) := by
            rw [hp]
            rcases Nat.eq_zero_or_pos n with h0 | h0
            · obtain rfl : i = 2 := by omega
              subst h0; rfl
            · rw [show i - 1 = n by omega]
          have HC := Lib.hid (HC1.out (by omega))
          rw [← hpn] at HC
          have HB2 := hw.out
          clear hp hpn hinv hw HC1 HC2
          go_wp2_with (first | (go_at_call 63; fail))
          go_at_call 63
          refine (HC.out _).mono ?_
          rintro e w3 ⟨rfl, hbx⟩
          have hb3 := HB2.trans (hbx.mono HB2.size)
          clear hbx 
          obtain ⟨hc, hf, hlt, hb0⟩ := out_ready hb3
          go_wp2
          obtain ⟨e0, e1, e2⟩ := set_three w3 w.heap.size (.int .i64 ya) (.int .i64 yb) (.string yc) (hc 0) (hc 1) (hc 2)
          have hbf := set_below hb0 (.int .i64 ya) (.int .i64 yb) (.string yc)
          generalize (((w3.setCell ⟨w.heap.size, 0, none⟩ (.int .i64 ya)).setCell ⟨w.heap.size, 1, none⟩ (.int .i64 yb)).setCell ⟨w.heap.size, 2, none⟩ (.string yc)) = wf at *
          refine bodyPost_ret (v := .agg #[.int .i64 ya, .int .i64 yb, .string yc]) (by simp [results, Tryz.results76, go_sem, e0, e1, e2]) rfl ?_
          exact ⟨rfl, hbf⟩
      · exact absurd h (by simp)
end Go.Proofs.YtkobkeopajohiaaGreatDoor
