/-
  CONTRACT of the reference's many of layer 16.
-/
import Derived.Test.YtkobkeopajohiaaGreatDoorS7
import Derived.LoopTactic
namespace Go.Proofs.YtkobkeopajohiaaGreatDoor
open Go.RowKit Go.Lib

def stN : Option Nat → Int | none => 0 | some n => n
set_option maxHeartbeats 6400000 in
set_option maxRecDepth 100000 in
theorem refMany_any (isG : Bool) (g cap : Nat) (l : List Int) (v : V) (w : World) (hI : IntAt w g l) (hg : g < w.heap.size) (hl : ∀ a ∈ l, -999999999999999999 ≤ a ∧ a ≤ 999999999999999999) (hlen : l.length ≤ 1000) (hne : l ≠ []) (hv : manyF isG none l = v) :
    Calls Tryz.prog 78 #[.slice (some ⟨g, 0, none⟩) l.length cap, .bool (!isG)] w fun e w' => e = .returned v.tell ∧ Below w.heap.size w w' := by
  obtain ⟨ya, yb, yc, ev⟩ := tell_form v
  obtain ⟨m, hm⟩ : ∃ m, l.length = m := ⟨_, rfl⟩
  rw [hm] at hlen ⊢
  have HL := Lib.hid hl
  have HI := Lib.hid hI
  have HV : Hid (manyF isG none (l.drop 0) = v) := Lib.hid (by rw [List.drop_zero]; exact hv)
  have HM := Lib.hid hm
  have hm0 : 0 < m := by rw [← hm]; exact List.length_pos_iff.2 hne
  have HE := Lib.hid ev
  rw [ev]
  have HFail : Hid (v = .fail 2 → ∀ w, Calls Tryz.prog 61 #[.int .i64 2] w fun e w' => e = .returned (.agg #[.int .i64 ya, .int .i64 yb, .string yc]) ∧ Below w.heap.size w w') := Lib.hid fun h w => by
    have := refFail_any 2 w
    rw [← h, ev] at this
    exact this
  have HNum : Hid (∀ n : Nat, V.num ((n : Int) * 10000) = v → ∀ w, Calls Tryz.prog 63 #[.int .i64 ((n : Int) * 10000)] w fun e w' => e = .returned (.agg #[.int .i64 ya, .int .i64 yb, .string yc]) ∧ Below w.heap.size w w') := Lib.hid fun n h w => by
    have := refNum_any ((n : Int) * 10000) w
    rw [h, ev] at this
    exact this
  clear hl hI hv hm hne ev HE
  go_enter Tryz.func78, Tryz.ntmps78
  go_wp2
  go_loopw [5, 13] (fun vn vk wr => ∃ (st : Option Nat) (k : Nat), vn = .int .i64 (stN st) ∧ vk = .int .i64 k ∧ k ≤ m ∧ Hid (0 < k → st ≠ none) ∧ Hid (k = 0 → st = none) ∧ Hid (∀ n, st = some n → n ≤ 99999999999999) ∧ Hid (manyF isG st (l.drop k) = v) ∧ Hid (Below (w.alloc (.cells #[.int .i64 0, .int .i64 0, .string { data := #[] }] 28)).heap.size (w.alloc (.cells #[.int .i64 0, .int .i64 0, .string { data := #[] }] 28)) wr)) (fun _ vk _ => m - (RowKit.intOf vk).toNat)
  case atStart => exact ⟨none, 0, rfl, rfl, by omega, Lib.hid (fun h => by omega), Lib.hid (fun _ => rfl), Lib.hid (fun n h => by cases h), HV, Lib.hid (Below.refl _ _)⟩
  case round =>
    obtain ⟨st, k, rfl, rfl, hk, hsome, hnone, hbd, hinv, hw⟩ := hrel
    by_cases hkm : k < m
    · have hkl : k < l.length := by rw [HM.out]; exact hkm
      obtain ⟨a, ha⟩ : ∃ a, l[k]'hkl = a := ⟨_, rfl⟩
      have hdr : l.drop k = a :: l.drop (k + 1) := by rw [List.drop_eq_getElem_cons hkl, ha]
      have hc : wr.cell? ⟨g, k, none⟩ = some (.int .i64 a) := by
        rw [hw.out.cell (p := ⟨g, k, none⟩) (by simp; omega), World.cell?_alloc_past _ _ _ hg]
        exact HI.out k a (by rw [List.getElem?_eq_getElem hkl, ha])
      have hab := HL.out a (by rw [← ha]; exact List.getElem_mem hkl)
      obtain ⟨ab0, ab1⟩ := hab
      have hi := hinv.out
      rw [hdr] at hi
      have hkmi : (k : Int) < m := by omega
      have HB1 := hw.out
      clear hdr ha hkl hinv
      by_cases hneg : a < 0
      · have hvf : v = .fail 2 := by
          cases st with
          | none => simp only [manyF, if_pos hneg] at hi; exact hi.symm
          | some n => simp only [manyF, if_pos hneg] at hi; exact hi.symm
        have HF2 := Lib.hid (HFail.out hvf)
        clear hi HV hvf
        go_wp2_with (first | (go_at_call 61; fail))
        go_at_call 61
        refine (HF2.out _).mono ?_
        rintro e w3 ⟨rfl, hbx⟩
        have hb3 := HB1.trans (hbx.mono HB1.size)
        clear hbx 
        obtain ⟨hc, hf, hlt, hb0⟩ := out_ready hb3
        go_wp2
        obtain ⟨e0, e1, e2⟩ := set_three w3 w.heap.size (.int .i64 ya) (.int .i64 yb) (.string yc) (hc 0) (hc 1) (hc 2)
        have hbf := set_below hb0 (.int .i64 ya) (.int .i64 yb) (.string yc)
        generalize (((w3.setCell ⟨w.heap.size, 0, none⟩ (.int .i64 ya)).setCell ⟨w.heap.size, 1, none⟩ (.int .i64 yb)).setCell ⟨w.heap.size, 2, none⟩ (.string yc)) = wf at *
        refine bodyPost_ret (v := .agg #[.int .i64 ya, .int .i64 yb, .string yc]) (by simp [results, Tryz.results78, go_sem, e0, e1, e2]) rfl ?_
        exact ⟨rfl, hbf⟩
      · obtain ⟨q, hq⟩ : ∃ q, a.toNat / 10000 = q := ⟨_, rfl⟩
        have hqb : q ≤ 99999999999999 := by omega
        have hqi : a / 10000 = (q : Int) := by omega
        cases st with
        | none =>
          have hk0 : k = 0 := by
            rcases Nat.eq_zero_or_pos k with h | h
            · exact h
            · exact absurd rfl (hsome.out h)
          subst hk0
          simp only [manyF, if_neg hneg, hq] at hi
          have HN := Lib.hid hi
          have HB2 := hw
          clear hi hq
          simp only [stN]
          go_wp2
          go_roundw
          case rel => exact ⟨some q, 1, by (show Value.int IntKind.i64 (a / 10000) = Value.int IntKind.i64 (q : Int); rw [hqi]), rfl, by omega, Lib.hid (fun _ => by simp), Lib.hid (fun h => by omega), Lib.hid (fun n h => by obtain rfl := Option.some.inj h; exact hqb), HN, HB2⟩
          case measure => simp [RowKit.intOf]; omega
        | some n =>
          have hk0 : ((k : Int) == 0) = false := by
            rcases Nat.eq_zero_or_pos k with h | h
            · exact absurd (hnone.out h) (by simp)
            · simp; omega
          have hnb := hbd.out n rfl
          simp only [manyF, if_neg hneg, hq] at hi
          simp only [stN]
          have HD := Lib.hid fun w => refGcd_any q n w (by omega) (by omega)
          cases isG
          · simp only [Bool.false_eq_true, if_false] at hi
            by_cases hz : n = 0 ∨ q = 0
            · rw [if_pos hz] at hi
              have HN := Lib.hid hi
              have HB2 := hw
              have hz2 : ((n : Int) == 0) = true ∨ ((n : Int) == 0) = false ∧ ((q : Int) == 0) = true := by
                by_cases h : n = 0
                · exact .inl (by simp [h])
                · exact .inr ⟨by simp [h], by rcases hz with h1 | h1; exact absurd h1 h; simp [h1]⟩
              clear hi hq hz
              rcases hz2 with h1 | ⟨h1, h2⟩
              all_goals
                go_wp2
                go_roundw
                case rel => exact ⟨some 0, k + 1, rfl, by go_num, by omega, Lib.hid (fun _ => by simp), Lib.hid (fun h => by omega), Lib.hid (fun n h => by obtain rfl := Option.some.inj h; omega), HN, HB2⟩
                case measure => simp [RowKit.intOf]; omega
            · rw [if_neg hz] at hi
              simp only [not_or] at hz
              obtain ⟨z1, z2⟩ := hz
              have n1 : ((n : Int) == 0) = false := by simp [z1]
              have n2 : ((q : Int) == 0) = false := by simp [z2]
              have hg0 : 0 < Nat.gcd n q := Nat.gcd_pos_of_pos_left _ (by omega)
              obtain ⟨gg, hgg⟩ : ∃ gg, Nat.gcd n q = gg := ⟨_, rfl⟩
              rw [hgg] at hi HD hg0
              obtain ⟨y, hy⟩ : ∃ y, n / gg = y := ⟨_, rfl⟩
              rw [hy] at hi
              have hyb : y ≤ 99999999999999 := by rw [← hy]; exact Nat.le_trans (Nat.div_le_self _ _) hnb
              have hyi : (n : Int) / (gg : Int) = (y : Int) := by rw [← hy]; exact (Int.natCast_ediv n gg).symm
              have hg1 : ¬ (gg : Int) = 0 := by omega
              have hg2 : (1 : Int) ≤ gg := by omega
              obtain ⟨r, ok, hr⟩ : ∃ r ok, Tab.mulS ((y : Nat) * 10000) ((q : Nat) * 10000) = (r, ok) := ⟨_, _, rfl⟩
              have hr0 := mulS_nonneg ((y : Nat) * 10000) ((q : Nat) * 10000) (by omega) (by omega)
              have hrb := Tab.mulS_bd ((y : Nat) * 10000) ((q : Nat) * 10000)
              rw [hr] at hi hr0 hrb
              have hr0 : 0 ≤ r := hr0
              have hrb : -999999999999999999 ≤ r ∧ r ≤ 999999999999999999 := hrb
              have HMul := Lib.hid fun w => refMul_any ((y : Nat) * 10000) ((q : Nat) * 10000) r ok w (by omega) (by omega) hr
              clear hr hq hgg hy z1 z2
              obtain ⟨rb0, rb1⟩ := hrb
              cases ok
              · simp only [Bool.false_eq_true, if_false] at hi
                have HF2 := Lib.hid (HFail.out hi.symm)
                clear HV hi
                go_wp2_with (first | (go_at_call 136; refine (HD.out _).mono ?_; rintro e w' ⟨rfl, rfl⟩) | (go_at_call 98; fail))
                go_at_call 98
                refine (HMul.out _).mono ?_
                rintro e w2 ⟨rfl, hbx⟩
                have HB2 := HB1.trans (hbx.mono HB1.size)
                clear hbx hw HB1 hc
                go_wp2_with (first | (go_at_call 61; fail))
                go_at_call 61
                refine (HF2.out _).mono ?_
                rintro e w3 ⟨rfl, hbx⟩
                have hb3 := HB2.trans (hbx.mono HB2.size)
                clear hbx 
                obtain ⟨hc, hf, hlt, hb0⟩ := out_ready hb3
                go_wp2
                obtain ⟨e0, e1, e2⟩ := set_three w3 w.heap.size (.int .i64 ya) (.int .i64 yb) (.string yc) (hc 0) (hc 1) (hc 2)
                have hbf := set_below hb0 (.int .i64 ya) (.int .i64 yb) (.string yc)
                generalize (((w3.setCell ⟨w.heap.size, 0, none⟩ (.int .i64 ya)).setCell ⟨w.heap.size, 1, none⟩ (.int .i64 yb)).setCell ⟨w.heap.size, 2, none⟩ (.string yc)) = wf at *
                refine bodyPost_ret (v := .agg #[.int .i64 ya, .int .i64 yb, .string yc]) (by simp [results, Tryz.results78, go_sem, e0, e1, e2]) rfl ?_
                exact ⟨rfl, hbf⟩
              · simp only [if_true] at hi
                have HN := Lib.hid hi
                clear hi
                go_wp2_with (first | (go_at_call 136; refine (HD.out _).mono ?_; rintro e w' ⟨rfl, rfl⟩) | (go_at_call 98; fail))
                go_at_call 98
                refine (HMul.out _).mono ?_
                rintro e w2 ⟨rfl, hbx⟩
                have HB2 := Lib.hid (HB1.trans (hbx.mono HB1.size))
                clear hbx hw HB1 hc
                go_wp2
                go_roundw
                case rel => (repeat apply Exists.intro); exact ⟨⟨some (r.toNat / 10000), k + 1, by (show Value.int IntKind.i64 (r / 10000) = Value.int IntKind.i64 ((r.toNat / 10000 : Nat) : Int); congr 1; omega), by go_num, by omega, Lib.hid (fun _ => by simp), Lib.hid (fun h => by omega), Lib.hid (fun n h => by obtain rfl := Option.some.inj h; omega), HN, HB2⟩, rfl⟩
                case measure => simp [RowKit.intOf]; omega
          · simp only [if_true] at hi
            have hgb : Nat.gcd n q ≤ 99999999999999 := by
              rcases Nat.eq_zero_or_pos n with h | h
              · rw [h, Nat.gcd_zero_left]; exact hqb
              · exact Nat.le_trans (Nat.le_of_dvd h (Nat.gcd_dvd_left n q)) hnb
            have HN := Lib.hid hi
            have HB2 := hw
            clear hi hq
            generalize Nat.gcd n q = gg at *
            go_wp2_with (first | (go_at_call 136; refine (HD.out _).mono ?_; rintro e w' ⟨rfl, rfl⟩))
            go_roundw
            case rel => (repeat apply Exists.intro); exact ⟨⟨some gg, k + 1, rfl, by go_num, by omega, Lib.hid (fun _ => by simp), Lib.hid (fun h => by omega), Lib.hid (fun n h => by obtain rfl := Option.some.inj h; exact hgb), HN, HB2⟩, rfl⟩
            case measure => simp [RowKit.intOf]; omega
    · obtain rfl : k = m := by omega
      have hi := hinv.out
      rw [List.drop_of_length_le (by rw [HM.out]; exact Nat.le_refl _)] at hi
      have HB1 := hw.out
      cases st with
      | none => exact absurd rfl (hsome.out hm0)
      | some n =>
        have hnb := hbd.out n rfl
        simp only [manyF] at hi
        have HC := Lib.hid (HNum.out n hi)
        clear hi hinv HV
        simp only [stN]
        go_wp2_with (first | (go_at_call 63; fail))
        go_at_call 63
        refine (HC.out _).mono ?_
        rintro e w3 ⟨rfl, hbx⟩
        have hb3 := HB1.trans (hbx.mono HB1.size)
        clear hbx 
        obtain ⟨hc, hf, hlt, hb0⟩ := out_ready hb3
        go_wp2
        obtain ⟨e0, e1, e2⟩ := set_three w3 w.heap.size (.int .i64 ya) (.int .i64 yb) (.string yc) (hc 0) (hc 1) (hc 2)
        have hbf := set_below hb0 (.int .i64 ya) (.int .i64 yb) (.string yc)
        generalize (((w3.setCell ⟨w.heap.size, 0, none⟩ (.int .i64 ya)).setCell ⟨w.heap.size, 1, none⟩ (.int .i64 yb)).setCell ⟨w.heap.size, 2, none⟩ (.string yc)) = wf at *
        refine bodyPost_ret (v := .agg #[.int .i64 ya, .int .i64 yb, .string yc]) (by simp [results, Tryz.results78, go_sem, e0, e1, e2]) rfl ?_
        exact ⟨rfl, hbf⟩
end Go.Proofs.YtkobkeopajohiaaGreatDoor
