/-
  CONTRACTS of the reference's Less, Sqrt and gcd.
-/
import Derived.Test.YtkobkeopajohiaaGreatDoorNB
namespace Go.Proofs.YtkobkeopajohiaaGreatDoor
open Go.RowKit Go.Lib

theorem less_any (x y : ByteArray) (p : Bool) (w : World) (hx : Tab.Dig x.data.toList) (hy : Tab.Dig y.data.toList) (hp : decide (Tab.val x.data.toList < Tab.val y.data.toList) = p) :
    Calls Tryz.prog 134 #[.string x, .string y] w fun e w' => e = .returned (.bool p) ∧ w = w' := by
  rw [← Tab.less_digs _ _ hx hy] at hp
  obtain ⟨s, hs⟩ : ∃ s : ByteArray, s = ⟨(Tab.strip x.data.toList).toArray⟩ := ⟨_, rfl⟩
  obtain ⟨t, ht⟩ : ∃ t : ByteArray, t = ⟨(Tab.strip y.data.toList).toArray⟩ := ⟨_, rfl⟩
  have hs2 : s.data.toList = Tab.strip x.data.toList := by rw [hs]
  have ht2 : t.data.toList = Tab.strip y.data.toList := by rw [ht]
  have HX := Lib.hid fun w => strip_is x s w hs2
  have HY := Lib.hid fun w => strip_is y t w ht2
  rw [← hs2, ← ht2] at hp
  rw [← size_eq, ← size_eq] at hp
  have hL : Op.bytesLess s.toList t.toList = Op.bytesLess s.data.toList t.data.toList := by rw [Lib.toList_data, Lib.toList_data]
  rw [← hL] at hp
  clear hL hs ht hs2 ht2 hx hy
  by_cases h1 : s.size = t.size
  · rw [if_pos h1] at hp
    have h2 : ((s.size : Int) != (t.size : Int)) = false := by rw [h1]; simp
    clear h1
    go_enter Tryz.func134, Tryz.ntmps134
    go_wp2_with (first
      | (go_at_call_of 132 (Value.string x); refine (HX.out _).mono ?_; rintro e w' ⟨rfl, rfl⟩)
      | (go_at_call_of 132 (Value.string y); refine (HY.out _).mono ?_; rintro e w' ⟨rfl, rfl⟩))
    go_ret
    exact ⟨by first | rfl | rw [← hp], rfl⟩
  · rw [if_neg h1] at hp
    have h2 : ((s.size : Int) != (t.size : Int)) = true := by simp; omega
    by_cases h3 : s.size < t.size
    · have h4 : (s.size : Int) < t.size := by omega
      rw [decide_eq_true h3] at hp
      subst hp
      clear h1 h3
      go_enter Tryz.func134, Tryz.ntmps134
      go_wp2_with (first
        | (go_at_call_of 132 (Value.string x); refine (HX.out _).mono ?_; rintro e w' ⟨rfl, rfl⟩)
        | (go_at_call_of 132 (Value.string y); refine (HY.out _).mono ?_; rintro e w' ⟨rfl, rfl⟩))
      go_ret
      exact ⟨rfl, rfl⟩
    · have h4 : ¬ (s.size : Int) < t.size := by omega
      rw [decide_eq_false h3] at hp
      subst hp
      clear h1 h3
      go_enter Tryz.func134, Tryz.ntmps134
      go_wp2_with (first
        | (go_at_call_of 132 (Value.string x); refine (HX.out _).mono ?_; rintro e w' ⟨rfl, rfl⟩)
        | (go_at_call_of 132 (Value.string y); refine (HY.out _).mono ?_; rintro e w' ⟨rfl, rfl⟩))
      go_ret
      exact ⟨ret_bool (decide_eq_false (show ¬ s.size < t.size by omega)), rfl⟩
/-- the loop of Sqrt: what has been found, at the place j -/
def RtInv (N j R : Nat) : Prop := R * R ≤ N ∧ N < (R + 10 ^ j) * (R + 10 ^ j)
theorem rt_bound {N R : Nat} (h : R * R ≤ N) (hN : N < 100000000000 * 100000000000) : R < 100000000000 := by
  rcases Nat.lt_or_ge R 100000000000 with h1 | h1
  · exact h1
  · have := Nat.mul_le_mul h1 h1; omega
set_option maxHeartbeats 3200000 in
set_option maxRecDepth 100000 in
theorem refSqrt_any (a : Int) (w : World) (h0 : 0 ≤ a) (h1 : a ≤ 999999999999999999) :
    Calls Tryz.prog 75 #[.int .i64 a] w fun e w' => e = .returned (.int .i64 (Tab.sqrtS a : Int)) ∧ Below w.heap.size w w' := by
  obtain ⟨n, rfl⟩ := Int.eq_ofNat_of_zero_le h0
  obtain ⟨q1, q2⟩ := Tab.sqrtS_spec (n : Int) h0 h1
  have hQ : ∀ R, R * R ≤ n * 10000 → n * 10000 < (R + 1) * (R + 1) → Tab.sqrtS (n : Int) = R := fun R a b => Tab.root_one (N := n * 10000) (by simpa using q1) (by simpa using q2) a b
  have HQ := Lib.hid hQ
  clear q1 q2 hQ
  obtain ⟨s, s1, s2, s3, hs⟩ := digits_of n (by omega)
  have HS := Lib.hid hs
  obtain ⟨z, hz⟩ : ∃ z : ByteArray, s ++ ⟨#[48, 48, 48, 48]⟩ = z := ⟨_, rfl⟩
  have hzl : z.data.toList = decDigits n ++ [48, 48, 48, 48] := by rw [← hz, ByteArray.data_append, Array.toList_append, s1]
  have hdz : Tab.Dig z.data.toList := by rw [hzl]; exact (Tab.dig_dec _).append (Tab.dig_zeros 4)
  have hvz : Tab.val z.data.toList = n * 10000 := by
    rw [hzl, Tab.val_append, Tab.val_dec]; rfl
  have HLess := Lib.hid fun (t : ByteArray) (p : Bool) (ht : Tab.Dig t.data.toList) (hp : decide (n * 10000 < Tab.val t.data.toList) = p) w => less_any z t p w hdz ht (by rw [hvz]; exact hp)
  have hN : n * 10000 < 100000000000 * 100000000000 := by omega
  have hst : Hid (RtInv (n * 10000) 12 0) := Lib.hid ⟨Nat.zero_le _, by omega⟩
  clear hzl hdz hvz hs s1
  generalize n * 10000 = N at *
  go_enter Tryz.func75, Tryz.ntmps75
  go_wp2_with (first | (go_at_call 129; fail))
  go_at_call 129
  refine (HS.out _).mono ?_
  rintro e w1 ⟨rfl, hb1⟩
  go_wp2
  go_loopw [4, 5] (fun vr vs wr => ∃ (j R st : Nat), vr = .int .i64 R ∧ vs = .int .i64 st ∧ j ≤ 12 ∧ Hid (st = 10 ^ j / 10) ∧ Hid (RtInv N j R) ∧ Below w.heap.size w wr) (fun _ vs _ => (RowKit.intOf vs).toNat)
  case atStart => exact ⟨12, 0, 100000000000, rfl, rfl, by omega, Lib.hid (by decide), hst, hb1⟩
  case round =>
    obtain ⟨j, R, st, rfl, rfl, hj, hst2, hinv, hB⟩ := hrel
    clear hst hb1
    obtain ⟨wo, rfl⟩ : ∃ wo : World, wo = wr := ⟨_, rfl⟩
    rcases j with _ | j
    · have hz0 : st = 0 := hst2.out
      subst hz0
      have hR := HQ.out R hinv.out.1 (by have := hinv.out.2; simpa using this)
      have HR := Lib.hid hR
      clear hR hinv hst2
      go_wp2
      go_ret
      exact ⟨ret_int (by rw [HR.out]), hB⟩
    · have hst3 : st = 10 ^ j := by rw [hst2.out, Nat.pow_succ]; omega
      have hstp : 0 < st := by rw [hst3]; exact Nat.pow_pos (by omega)
      have hstb : st ≤ 100000000000 := by rw [hst3]; exact Nat.le_trans (Nat.pow_le_pow_right (by omega) (show j ≤ 11 by omega)) (by decide)
      have hstn : Hid (st / 10 = 10 ^ j / 10) := Lib.hid (by rw [hst3])
      have hin : N < (R + 10 * st) * (R + 10 * st) := by have := hinv.out.2; rw [Nat.pow_succ, Nat.mul_comm (10 ^ j), ← hst3] at this; exact this
      have HI0 : Hid (R * R ≤ N ∧ N < (R + (10 - 0) * st) * (R + (10 - 0) * st)) := Lib.hid ⟨hinv.out.1, hin⟩
      have HNx : Hid (∀ R, R * R ≤ N → N < (R + st) * (R + st) → RtInv N j R) := Lib.hid fun R a b => ⟨a, by rw [← hst3]; exact b⟩
      clear hst3 hin hinv hst2
      go_wp2
      go_loopw [4, 6] (fun vr vi wr => ∃ (R i : Nat), vr = .int .i64 R ∧ vi = .int .i64 i ∧ i ≤ 9 ∧ Hid (R * R ≤ N ∧ N < (R + (10 - i) * st) * (R + (10 - i) * st)) ∧ Below w.heap.size w wr) (fun _ vi _ => 9 - (RowKit.intOf vi).toNat)
      case atStart => exact ⟨R, 0, rfl, rfl, by omega, HI0, hB⟩
      case round =>
        obtain ⟨R2, i, rfl, rfl, hi, hri, hB2⟩ := hrel
        clear hB HI0
        have hRb := rt_bound hri.out.1 hN
        by_cases hi9 : i < 9
        · obtain ⟨u, hu⟩ : ∃ u, R2 + st = u := ⟨_, rfl⟩
          have hub : u ≤ 200000000000 := by omega
          obtain ⟨t, t1, t2, t3, ht⟩ := digits_of u (by omega)
          have HT := Lib.hid ht
          have HTm := Lib.hid fun w => times_any t t w (by omega) (by omega) t2 t2 (by rw [t1]; exact Tab.dig_dec _) (by rw [t1]; exact Tab.dig_dec _)
          have hval : Tab.val t.data.toList * Tab.val t.data.toList = u * u := by rw [t1, Tab.val_dec]
          rw [hval] at HTm
          have hui : (R2 : Int) + (st : Int) = (u : Int) := by omega
          clear ht t1 hval
          go_wp2_with (first | (go_at_call 129; fail))
          go_at_call 129
          refine (HT.out _).mono ?_
          rintro e w2 ⟨rfl, hb2⟩
          have hB3 := hB2.trans (hb2.mono hB2.size)
          clear hB2 hb2
          go_wp2_with (first | (go_at_call 135; fail))
          go_at_call 135
          refine (HTm.out _).mono ?_
          rintro e w3 ⟨⟨y, rfl, y1, y2, y3⟩, hb3⟩
          have hB4 := hB3.trans (hb3.mono hB3.size)
          clear hB3 hb3
          by_cases hlt : N < u * u
          · have HLs := Lib.hid (HLess.out y true y1 (by rw [y2]; exact decide_eq_true hlt))
            have HRt := Lib.hid (HNx.out R2 hri.out.1 (by rw [hu]; exact hlt))
            clear y1 y2 y3 hlt hu hui
            go_wp2_with (first | (go_at_call 134; refine (HLs.out _).mono ?_; rintro e w' ⟨rfl, rfl⟩))
            go_roundw
            case rel => exact ⟨j, R2, st / 10, rfl, by go_num, by omega, hstn, HRt, hB4⟩
            case measure => simp [RowKit.intOf]; omega
          · have HLs := Lib.hid (HLess.out y false y1 (by rw [y2]; exact decide_eq_false hlt))
            have HRt : Hid (u * u ≤ N ∧ N < (u + (10 - (i + 1)) * st) * (u + (10 - (i + 1)) * st)) := Lib.hid ⟨by omega, by
              have := hri.out.2
              rw [show R2 + (10 - i) * st = u + (10 - (i + 1)) * st by rw [← hu, show 10 - i = (10 - (i + 1)) + 1 by omega, Nat.add_mul]; omega] at this
              exact this⟩
            clear y1 y2 y3 hlt hu
            go_wp2_with (first | (go_at_call 134; refine (HLs.out _).mono ?_; rintro e w' ⟨rfl, rfl⟩))
            go_roundw
            case rel => exact ⟨u, i + 1, rfl, by go_num, by omega, HRt, hB4⟩
            case measure => simp [RowKit.intOf]; omega
        · obtain rfl : i = 9 := by omega
          have HRt := Lib.hid (HNx.out R2 hri.out.1 (by have := hri.out.2; simpa using this))
          clear hri
          go_wp2
          go_roundw
          case rel => exact ⟨j, R2, st / 10, rfl, by go_num, by omega, hstn, HRt, hB2⟩
          case measure => simp [RowKit.intOf]; omega
theorem refGcd_any : ∀ (b a : Nat) (w : World), a ≤ 999999999999999999 → b ≤ 999999999999999999 →
    Calls Tryz.prog 136 #[.int .i64 a, .int .i64 b] w fun e w' => e = .returned (.int .i64 (Nat.gcd a b : Nat)) ∧ w = w' := by
  intro b
  induction b using Nat.strongRecOn with
  | _ b ih =>
    intro a w ha hb
    by_cases h0 : b = 0
    · subst h0
      have hg : Nat.gcd a 0 = a := Nat.gcd_zero_right a
      rw [hg]
      clear ih hg
      go_enter Tryz.func136, Tryz.ntmps136
      go_wp2
      go_ret
      exact ⟨rfl, rfl⟩
    · have hg : Nat.gcd a b = Nat.gcd b (a % b) := by rw [Nat.gcd_comm a b, Nat.gcd_rec]; exact Nat.gcd_comm _ _
      have hlt := Nat.mod_lt a (show 0 < b by omega)
      have HI := Lib.hid fun w => ih (a % b) hlt b w hb (by omega)
      have hm : (a : Int) % (b : Int) = ((a % b : Nat) : Int) := by omega
      have hz : ((b : Int) == 0) = false := by rw [beq_eq_false_iff_ne]; omega
      have hb1 : (1 : Int) ≤ b := by omega
      rw [hg]
      clear ih hg hlt h0
      generalize a % b = r at *
      go_enter Tryz.func136, Tryz.ntmps136
      go_wp2_with (first | (go_at_call 136; refine (HI.out _).mono ?_; rintro e w' ⟨rfl, rfl⟩))
      go_ret
      exact ⟨rfl, rfl⟩
end Go.Proofs.YtkobkeopajohiaaGreatDoor
