/-
  CONTRACT of package maths' many: greatest common divisors, least common multiples, of any numbers; the second number, the places.
-/
import Derived.Test.YtkobkeopajohiaaGreatDoorS2
import Derived.Test.YtkobkeopajohiaaGreatDoorVC
import Derived.LoopTactic
namespace Go.Proofs.YtkobkeopajohiaaGreatDoor
open Go.RowKit Go.Lib

/-- block g holds these numbers -/
def IntAt (w : World) (g : Nat) (l : List Int) : Prop := ∀ i x, l[i]? = some x → w.cell? ⟨g, i, none⟩ = some (.int .i64 x)
/-- the greatest common divisor of what is so far and more numbers, or the least common multiple -/
def manyF (isG : Bool) : Option Nat → List Int → V
  | none, [] => .num (-10000)
  | some n, [] => .num (n * 10000)
  | none, a :: l => if a < 0 then .fail 2 else manyF isG (some (a.toNat / 10000)) l
  | some n, a :: l => if a < 0 then .fail 2 else if isG then manyF isG (some (Nat.gcd n (a.toNat / 10000))) l
      else if n = 0 ∨ a.toNat / 10000 = 0 then manyF isG (some 0) l
      else if (Tab.mulS ((n / Nat.gcd n (a.toNat / 10000) : Nat) * 10000) ((a.toNat / 10000 : Nat) * 10000)).2 then manyF isG (some ((Tab.mulS ((n / Nat.gcd n (a.toNat / 10000) : Nat) * 10000) ((a.toNat / 10000 : Nat) * 10000)).1.toNat / 10000)) l
      else .fail 2
def stI : Option Nat → Int | none => -1 | some n => n
theorem mulS_nonneg (a b : Int) (ha : 0 ≤ a) (hb : 0 ≤ b) : 0 ≤ (Tab.mulS a b).1 := by
  unfold Tab.mulS
  rw [decide_eq_false (show ¬ a < 0 by omega), decide_eq_false (show ¬ b < 0 by omega)]
  unfold Tab.made
  split
  · simp
  · simp
set_option maxHeartbeats 6400000 in
set_option maxRecDepth 100000 in
theorem many_any (nm : ByteArray) (isG : Bool) (g cap : Nat) (l : List Int) (v : V) (w : World) (hnm : (nm.toList == [71, 67, 68]) = isG) (hI : IntAt w g l) (hg : g < w.heap.size) (hl : ∀ a ∈ l, -999999999999999999 ≤ a ∧ a ≤ 999999999999999999) (hlen : l.length ≤ 1000) (hne : l ≠ []) (hv : manyF isG none l = v) :
    Calls Tryz.prog 58 #[.string nm, .slice (some ⟨g, 0, none⟩) l.length cap] w fun e w' => e = .returned v.val ∧ Below w.heap.size w w' := by
  obtain ⟨m, hm⟩ : ∃ m, l.length = m := ⟨_, rfl⟩
  rw [hm] at hlen ⊢
  have HL := Lib.hid hl
  have HI := Lib.hid hI
  have HV : Hid (manyF isG none (l.drop 0) = v) := Lib.hid (by rw [List.drop_zero]; exact hv)
  have HM := Lib.hid hm
  have hm0 : 0 < m := by rw [← hm]; exact List.length_pos_iff.2 hne
  clear hl hI hv hm hne
  go_enter Tryz.func58, Tryz.ntmps58
  go_wp2
  go_loopw [5, 17] (fun vn vk wr => ∃ (st : Option Nat) (k : Nat), vn = .int .i64 (stI st) ∧ vk = .int .i64 k ∧ k ≤ m ∧ Hid (0 < k → st ≠ none) ∧ Hid (∀ n, st = some n → n ≤ 99999999999999) ∧ Hid (manyF isG st (l.drop k) = v) ∧ Hid (Below w.heap.size w wr)) (fun _ vk _ => m - (RowKit.intOf vk).toNat)
  case atStart => exact ⟨none, 0, rfl, rfl, by omega, Lib.hid (fun h => by omega), Lib.hid (fun n h => by cases h), HV, Lib.hid (Below.refl _ _)⟩
  case round =>
    obtain ⟨st, k, rfl, rfl, hk, hsome, hbd, hinv, hw⟩ := hrel
    by_cases hkm : k < m
    · have hkl : k < l.length := by rw [HM.out]; exact hkm
      obtain ⟨a, ha⟩ : ∃ a, l[k]'hkl = a := ⟨_, rfl⟩
      have hdr : l.drop k = a :: l.drop (k + 1) := by rw [List.drop_eq_getElem_cons hkl, ha]
      have hc : wr.cell? ⟨g, k, none⟩ = some (.int .i64 a) := (hw.out.cell (p := ⟨g, k, none⟩) hg).trans (HI.out k a (by rw [List.getElem?_eq_getElem hkl, ha]))
      have hab := HL.out a (by rw [← ha]; exact List.getElem_mem hkl)
      have HW := Lib.hid fun w => whole_any a w hab.1 hab.2
      have hi := hinv.out
      rw [hdr] at hi
      have hkmi : (k : Int) < m := by omega
      clear hdr ha hkl hinv
      by_cases hneg : a < 0
      · have hvf : v = .fail 2 := by
          cases st with
          | none => simp only [manyF, if_pos hneg] at hi; exact hi.symm
          | some n => simp only [manyF, if_pos hneg] at hi; exact hi.symm
        subst hvf
        have HB2 := hw
        clear hi HV
        generalize a.tdiv 10000 = q at *
        go_wp2_with (first | (go_at_call 114; refine (HW.out _).mono ?_; rintro e w' ⟨rfl, rfl⟩))
        go_ret
        exact ⟨rfl, HB2.out⟩
      · obtain ⟨q, hq⟩ : ∃ q, a.toNat / 10000 = q := ⟨_, rfl⟩
        have hqb : q ≤ 99999999999999 := by omega
        have hqi : a.tdiv 10000 = (q : Int) := by rw [Int.tdiv_eq_ediv_of_nonneg (by omega)]; omega
        rw [hqi] at HW
        clear hqi
        cases st with
        | none =>
          simp only [manyF, if_neg hneg, hq] at hi
          have HN := Lib.hid hi
          have HB2 := hw
          clear hi hq
          simp only [stI]
          go_wp2_with (first | (go_at_call 114; refine (HW.out _).mono ?_; rintro e w' ⟨rfl, rfl⟩))
          go_roundw
          case rel => exact ⟨some q, k + 1, rfl, by go_num, by omega, Lib.hid (fun _ => by simp), Lib.hid (fun n h => by obtain rfl := Option.some.inj h; exact hqb), HN, HB2⟩
          case measure => simp [RowKit.intOf]; omega
        | some n =>
          have hnb := hbd.out n rfl
          simp only [manyF, if_neg hneg, hq] at hi
          simp only [stI]
          have HD := Lib.hid fun w => divisor_any n q w (by omega) (by omega)
          cases isG
          · simp only [Bool.false_eq_true, if_false] at hi
            by_cases hz : n = 0 ∨ q = 0
            · rw [if_pos hz] at hi
              have HN := Lib.hid hi
              have hz2 : ((n : Int) == 0) = true ∨ ((n : Int) == 0) = false ∧ ((q : Int) == 0) = true := by
                by_cases h : n = 0
                · exact .inl (by simp [h])
                · exact .inr ⟨by simp [h], by rcases hz with h1 | h1; exact absurd h1 h; simp [h1]⟩
              have HB2 := hw
              clear hi hq hz
              rcases hz2 with h1 | ⟨h1, h2⟩
              all_goals
                go_wp2_with (first | (go_at_call 114; refine (HW.out _).mono ?_; rintro e w' ⟨rfl, rfl⟩))
                go_roundw
                case rel => exact ⟨some 0, k + 1, rfl, by go_num, by omega, Lib.hid (fun _ => by simp), Lib.hid (fun n h => by obtain rfl := Option.some.inj h; omega), HN, HB2⟩
                case measure => simp [RowKit.intOf]; omega
            · rw [if_neg hz] at hi
              simp only [not_or] at hz
              obtain ⟨z1, z2⟩ := hz
              have n1 : ((n : Int) == 0) = false := by simp [z1]
              have n2 : ((q : Int) == 0) = false := by simp [z2]
              have hg0 : 0 < Nat.gcd n q := Nat.gcd_pos_of_pos_left _ (by omega)
              obtain ⟨gg, hgg⟩ : ∃ gg, Nat.gcd n q = gg := ⟨_, rfl⟩
              rw [hgg] at hi HD hg0
              obtain ⟨y, hy⟩ : ∃ y, n / gg = y := ⟨_, rfl⟩
              rw [hy] at hi
              have hyb : y ≤ 99999999999999 := by rw [← hy]; exact Nat.le_trans (Nat.div_le_self _ _) hnb
              have hyi : (n : Int) / (gg : Int) = (y : Int) := by rw [← hy]; exact (Int.natCast_ediv n gg).symm
              have hg1 : ¬ (gg : Int) = 0 := by omega
              have hg2 : (1 : Int) ≤ gg := by omega
              have HIy := Lib.hid fun w => int_any y ((y : Int) * 10000) true w (by omega) (by unfold intS; rw [if_pos (by omega)])
              have HIq := Lib.hid fun w => int_any q ((q : Int) * 10000) true w (by omega) (by unfold intS; rw [if_pos (by omega)])
              obtain ⟨r, ok, hr⟩ : ∃ r ok, Tab.mulS ((y : Nat) * 10000) ((q : Nat) * 10000) = (r, ok) := ⟨_, _, rfl⟩
              have hr0 := mulS_nonneg ((y : Nat) * 10000) ((q : Nat) * 10000) (by omega) (by omega)
              have hrb := Tab.mulS_bd ((y : Nat) * 10000) ((q : Nat) * 10000)
              rw [hr] at hi hr0 hrb
              have hr0 : 0 ≤ r := hr0
              have hrb : -999999999999999999 ≤ r ∧ r ≤ 999999999999999999 := hrb
              have HMul := Lib.hid fun w => mul_any ((y : Nat) * 10000) ((q : Nat) * 10000) r ok w (by omega) (by omega) hr
              have HWr : Hid (∀ w, Calls Tryz.prog 114 #[.int .i64 r] w fun e w' => e = .returned (.int .i64 ((r.toNat / 10000 : Nat) : Int)) ∧ w = w') := Lib.hid fun w => by
                have := whole_any r w hrb.1 hrb.2
                rw [show r.tdiv 10000 = ((r.toNat / 10000 : Nat) : Int) by rw [Int.tdiv_eq_ediv_of_nonneg hr0]; omega] at this
                exact this
              have hyq : ((y : Int) == (q : Int)) = true ∨ True := .inr trivial
              clear hyq hr hq hgg hy z1 z2
              by_cases hyq : y = q
              · subst hyq
                clear HIq
                cases ok
                · simp only [Bool.false_eq_true, if_false] at hi
                  subst hi
                  clear HV
                  go_wp2_with (first | (go_at_call 114; refine (HW.out _).mono ?_; rintro e w' ⟨rfl, rfl⟩) | (go_at_call 123; fail))
                  go_at_call 123
                  refine (HD.out _).mono ?_
                  rintro e w2 ⟨rfl, hbx⟩
                  have HB1 := Lib.hid (hw.out.trans (hbx.mono hw.out.size))
                  clear hbx hw hc
                  go_wp2_with (first | (go_at_call 120; refine (HIy.out _).mono ?_; rintro e w' ⟨rfl, rfl⟩) | (go_at_call 95; fail))
                  go_at_call 95
                  refine (HMul.out _).mono ?_
                  rintro e w3 ⟨rfl, d2, rfl⟩
                  have HB2 := Lib.hid (below_drewN HB1.out d2)
                  clear HB1
                  go_wp2
                  go_ret
                  exact ⟨rfl, HB2.out⟩
                · simp only [if_true] at hi
                  have HN := Lib.hid hi
                  clear hi
                  go_wp2_with (first | (go_at_call 114; refine (HW.out _).mono ?_; rintro e w' ⟨rfl, rfl⟩) | (go_at_call 123; fail))
                  go_at_call 123
                  refine (HD.out _).mono ?_
                  rintro e w2 ⟨rfl, hbx⟩
                  have HB1 := Lib.hid (hw.out.trans (hbx.mono hw.out.size))
                  clear hbx hw hc
                  go_wp2_with (first | (go_at_call 120; refine (HIy.out _).mono ?_; rintro e w' ⟨rfl, rfl⟩) | (go_at_call 95; fail))
                  go_at_call 95
                  refine (HMul.out _).mono ?_
                  rintro e w3 ⟨rfl, d2, rfl⟩
                  have HB2 := Lib.hid (below_drewN HB1.out d2)
                  clear HB1
                  go_wp2_with (first | (go_at_call 114; refine (HWr.out _).mono ?_; rintro e w' ⟨rfl, rfl⟩))
                  go_roundw
                  case rel => exact ⟨some (r.toNat / 10000), k + 1, by (show Value.int IntKind.i64 (max r 0 / 10000) = Value.int IntKind.i64 ((r.toNat / 10000 : Nat) : Int); congr 1; omega), by go_num, by omega, Lib.hid (fun _ => by simp), Lib.hid (fun n h => by obtain rfl := Option.some.inj h; omega), HN, HB2⟩
                  case measure => simp [RowKit.intOf]; omega
              · cases ok
                · simp only [Bool.false_eq_true, if_false] at hi
                  subst hi
                  clear HV
                  go_wp2_with (first | (go_at_call 114; refine (HW.out _).mono ?_; rintro e w' ⟨rfl, rfl⟩) | (go_at_call 123; fail))
                  go_at_call 123
                  refine (HD.out _).mono ?_
                  rintro e w2 ⟨rfl, hbx⟩
                  have HB1 := Lib.hid (hw.out.trans (hbx.mono hw.out.size))
                  clear hbx hw hc
                  go_wp2_with (first | (go_at_call_of 120 (Value.int IntKind.i64 y); refine (HIy.out _).mono ?_; rintro e w' ⟨rfl, rfl⟩) | (go_at_call_of 120 (Value.int IntKind.i64 q); refine (HIq.out _).mono ?_; rintro e w' ⟨rfl, rfl⟩) | (go_at_call 95; fail))
                  go_at_call 95
                  refine (HMul.out _).mono ?_
                  rintro e w3 ⟨rfl, d2, rfl⟩
                  have HB2 := Lib.hid (below_drewN HB1.out d2)
                  clear HB1
                  go_wp2
                  go_ret
                  exact ⟨rfl, HB2.out⟩
                · simp only [if_true] at hi
                  have HN := Lib.hid hi
                  clear hi
                  go_wp2_with (first | (go_at_call 114; refine (HW.out _).mono ?_; rintro e w' ⟨rfl, rfl⟩) | (go_at_call 123; fail))
                  go_at_call 123
                  refine (HD.out _).mono ?_
                  rintro e w2 ⟨rfl, hbx⟩
                  have HB1 := Lib.hid (hw.out.trans (hbx.mono hw.out.size))
                  clear hbx hw hc
                  go_wp2_with (first | (go_at_call_of 120 (Value.int IntKind.i64 y); refine (HIy.out _).mono ?_; rintro e w' ⟨rfl, rfl⟩) | (go_at_call_of 120 (Value.int IntKind.i64 q); refine (HIq.out _).mono ?_; rintro e w' ⟨rfl, rfl⟩) | (go_at_call 95; fail))
                  go_at_call 95
                  refine (HMul.out _).mono ?_
                  rintro e w3 ⟨rfl, d2, rfl⟩
                  have HB2 := Lib.hid (below_drewN HB1.out d2)
                  clear HB1
                  go_wp2_with (first | (go_at_call 114; refine (HWr.out _).mono ?_; rintro e w' ⟨rfl, rfl⟩))
                  go_roundw
                  case rel => exact ⟨some (r.toNat / 10000), k + 1, by (show Value.int IntKind.i64 (max r 0 / 10000) = Value.int IntKind.i64 ((r.toNat / 10000 : Nat) : Int); congr 1; omega), by go_num, by omega, Lib.hid (fun _ => by simp), Lib.hid (fun n h => by obtain rfl := Option.some.inj h; omega), HN, HB2⟩
                  case measure => simp [RowKit.intOf]; omega
          · simp only [if_true] at hi
            have hgb : Nat.gcd n q ≤ 99999999999999 := by
              rcases Nat.eq_zero_or_pos n with h | h
              · rw [h, Nat.gcd_zero_left]; exact hqb
              · exact Nat.le_trans (Nat.le_of_dvd h (Nat.gcd_dvd_left n q)) hnb
            have HN := Lib.hid hi
            clear hi hq
            generalize Nat.gcd n q = gg at *
            go_wp2_with (first | (go_at_call 114; refine (HW.out _).mono ?_; rintro e w' ⟨rfl, rfl⟩) | (go_at_call 123; fail))
            go_at_call 123
            refine (HD.out _).mono ?_
            rintro e w2 ⟨rfl, hbx⟩
            have HB2 := Lib.hid (hw.out.trans (hbx.mono hw.out.size))
            clear hbx hw hc
            go_wp2
            go_roundw
            case rel => exact ⟨some gg, k + 1, rfl, by go_num, by omega, Lib.hid (fun _ => by simp), Lib.hid (fun n h => by obtain rfl := Option.some.inj h; exact hgb), HN, HB2⟩
            case measure => simp [RowKit.intOf]; omega
    · obtain rfl : k = m := by omega
      have hi := hinv.out
      rw [List.drop_of_length_le (by rw [HM.out]; exact Nat.le_refl _)] at hi
      cases st with
      | none => exact absurd rfl (hsome.out hm0)
      | some n =>
        have hnb := hbd.out n rfl
        simp only [manyF] at hi
        have HIn := Lib.hid fun w => int_any n ((n : Int) * 10000) true w (by omega) (by unfold intS; rw [if_pos (by omega)])
        have HC := Lib.hid fun w => counted_v ((n : Int) * 10000) true v w hi
        have HB2 := hw
        clear hi hinv HV
        simp only [stI]
        go_wp2_with (first
          | (go_at_call 120; refine (HIn.out _).mono ?_; rintro e w' ⟨rfl, rfl⟩)
          | (go_at_call 43; refine (HC.out _).mono ?_; rintro e w' ⟨rfl, rfl⟩))
        go_ret
        exact ⟨rfl, HB2.out⟩
end Go.Proofs.YtkobkeopajohiaaGreatDoor
