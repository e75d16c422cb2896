/-
  CONTRACT of the reference's Round.
-/
import Derived.Test.YtkobkeopajohiaaGreatDoorR4

namespace Go.Proofs.YtkobkeopajohiaaGreatDoor
open Go.RowKit Go.Lib

theorem digits_is (u : Int) (s : ByteArray) (w : World) (h0 : 0 ≤ u) (h1 : u < 18446744073709551616) (h : s.data.toList = decDigits u.toNat) :
    Calls Tryz.prog 129 #[.int .u64 u] w fun e w' => e = .returned (.string s) ∧ Below w.heap.size w w' := by
  obtain ⟨n, rfl⟩ := Int.eq_ofNat_of_zero_le h0
  refine (digits_any n w (by omega)).mono ?_
  rintro e w' ⟨rfl, hb⟩
  exact ⟨by rw [show decDigits n = s.data.toList from h.symm], hb⟩
theorem refCut_is (s t : ByteArray) (n : Int) (w : World) (hs : s.size ≤ 4294967) (h0 : 1 ≤ n) (h1 : n ≤ 4294967) (h : t.data.toList = Tab.cutR s.data.toList n.toNat) :
    Calls Tryz.prog 131 #[.string s, .int .i64 n] w fun e w' => e = .returned (.string t) ∧ Below w.heap.size w w' := by
  obtain ⟨k, rfl⟩ := Int.eq_ofNat_of_zero_le (show 0 ≤ n by omega)
  refine (refCut_any s k w hs (by omega) (by omega)).mono ?_
  rintro e w' ⟨rfl, hb⟩
  exact ⟨by rw [show Tab.cutR s.data.toList k = t.data.toList from h.symm], hb⟩
theorem strip_is (s t : ByteArray) (w : World) (h : t.data.toList = Tab.strip s.data.toList) :
    Calls Tryz.prog 132 #[.string s] w fun e w' => e = .returned (.string t) ∧ w = w' := by
  refine (strip_any s w).mono ?_
  rintro e w' ⟨rfl, rfl⟩
  exact ⟨by rw [← h], rfl⟩
theorem value_is (m : Bool) (s : ByteArray) (n : Int) (ok : Bool) (w : World) (hs : s.size ≤ 4294967296) (hd : Tab.Dig s.data.toList) (h : Tab.valueR m s.data.toList = (n, ok)) :
    Calls Tryz.prog 130 #[.bool m, .string s] w fun e w' => e = .returned (.tuple #[.int .i64 n, .bool ok]) ∧ w = w' := by
  have := value_any m s w hs hd
  rw [h] at this
  exact this

theorem refRound_any (a p : Int) (w : World) (ha : -999999999999999999 ≤ a ∧ a ≤ 999999999999999999) :
    Calls Tryz.prog 68 #[.int .i64 a, .int .i64 p] w fun e w' => e = .returned (.tuple #[.int .i64 (Tab.roundS a p).1, .bool (Tab.roundS a p).2]) ∧ Below w.heap.size w w' := by
  rw [← Tab.roundR_eq]
  obtain ⟨a0, a1⟩ := ha
  by_cases h4 : 4 ≤ p
  · have e : Tab.roundR a p = (a, true) := by unfold Tab.roundR; rw [if_pos h4]
    rw [e]
    clear e
    go_enter Tryz.func68, Tryz.ntmps68
    go_wp2
    go_ret2
    exact ⟨rfl, Below.refl _ _⟩
  · by_cases h14 : p < -14
    · have e : Tab.roundR a p = (0, true) := by unfold Tab.roundR; rw [if_neg h4, if_pos h14]
      rw [e]
      clear e
      go_enter Tryz.func68, Tryz.ntmps68
      go_wp2
      go_ret2
      exact ⟨rfl, Below.refl _ _⟩
    · have e : Tab.roundR a p = Tab.valueR (decide (a < 0)) (Tab.strip (Tab.cutR (decDigits a.natAbs) (4 - p).toNat ++ List.replicate (4 - p).toNat 48)) := by unfold Tab.roundR; rw [if_neg h4, if_neg h14]
      rw [e]
      obtain ⟨s1, e1⟩ : ∃ s : ByteArray, s.data.toList = decDigits a.natAbs := ⟨⟨(decDigits _).toArray⟩, rfl⟩
      obtain ⟨s2, e2⟩ : ∃ s : ByteArray, s.data.toList = Tab.cutR s1.data.toList (4 - p).toNat := ⟨⟨(Tab.cutR _ _).toArray⟩, rfl⟩
      have z1 : s1.size ≤ 20 := by rw [size_eq, e1]; exact dec_size _ (by omega)
      have z2 : s2.size ≤ 60 := by
        rw [size_eq, e2]
        have := Tab.cutR_len s1.data.toList (4 - p).toNat
        rw [← size_eq] at this
        omega
      have d2 : Tab.Dig s2.data.toList := by rw [e2, e1]; exact (Tab.cutR_val (Tab.dig_dec _) _ (by omega)).1
      rw [← e1, ← e2]
      obtain ⟨s3, e3⟩ : ∃ s : ByteArray, s.data.toList = Tab.strip (s2.data.toList ++ List.replicate (4 - p).toNat 48) := ⟨⟨(Tab.strip _).toArray⟩, rfl⟩
      have d3 : Tab.Dig s3.data.toList := by rw [e3]; exact Tab.dig_strip (d2.append (Tab.dig_zeros _))
      have z3 : s3.size ≤ 100 := by
        rw [size_eq, e3]
        unfold Tab.strip
        have h1 := (List.dropWhile_sublist (fun x => x == (48 : UInt8)) (l := s2.data.toList ++ List.replicate (4 - p).toNat 48)).length_le
        rw [List.length_append, List.length_replicate, ← size_eq] at h1
        omega
      rw [← e3]
      obtain ⟨n, ok, hn⟩ : ∃ n ok, Tab.valueR (decide (a < 0)) s3.data.toList = (n, ok) := ⟨_, _, rfl⟩
      rw [hn]
      have hq : (4 - p).toNat ≤ 18 := by omega
      have E1 := Lib.hid e1
      have E2 := Lib.hid e2
      have E3 := Lib.hid e3
      have HN := Lib.hid hn
      have D3 := Lib.hid d3
      clear e1 e2 e3 hn e d2 d3
      go_enter Tryz.func68, Tryz.ntmps68
      go_wp2_with (first
        | (go_at_call 64; refine (refSize_any a _ (by omega) (by omega)).mono ?_; rintro e w' ⟨rfl, rfl⟩))
      go_at_call 129
      refine (digits_is _ s1 _ (by omega) (by omega) (by rw [E1.out]; congr 1)).mono ?_
      rintro e w1 ⟨rfl, hb1⟩
      go_wp2_with (first | (go_at_call 131; fail))
      go_at_call 131
      refine (refCut_is s1 s2 _ _ (by omega) (by omega) (by omega) E2.out).mono ?_
      rintro e w2 ⟨rfl, hb2⟩
      have hb := hb1.trans (hb2.mono hb1.size)
      go_wp2_with (fail)
      go_loop [6, 7] (fun v i => ∃ (t : ByteArray) (j : Nat), v = .string t ∧ i = .int .i64 (p + j) ∧ p + j ≤ 4 ∧ t.size ≤ 60 + j ∧ Hid (t.data.toList = s2.data.toList ++ List.replicate j 48)) (fun _ i => (4 - RowKit.intOf i).toNat)
      case atStart => exact ⟨s2, 0, rfl, by simp, by omega, by omega, by show _ = _ ++ []; rw [List.append_nil]⟩
      case round =>
        obtain ⟨t, j, rfl, rfl, hj, htz, ht⟩ := hrel
        by_cases hlt : p + j < 4
        · have hd2 : (t ++ ⟨#[48]⟩ : ByteArray).data.toList = s2.data.toList ++ List.replicate (j + 1) 48 := by
            rw [ByteArray.data_append, Array.toList_append, ht.out, List.replicate_succ', List.append_assoc]
          have hz2 : (t ++ ⟨#[48]⟩ : ByteArray).size ≤ 60 + (j + 1) := by rw [ByteArray.size_append]; show t.size + 1 ≤ _; omega
          have HD := Lib.hid hd2
          have HZ := Lib.hid hz2
          clear hd2 hz2
          go_wp2
          go_round
          case rel => exact ⟨_, j + 1, rfl, by simp only [Value.int.injEq, true_and]; omega, by omega, HZ.out, HD.out⟩
          case measure => simp [RowKit.intOf]; omega
        · have hj4 : (4 - p).toNat = j := by omega
          have hst : s3.data.toList = Tab.strip t.data.toList := by rw [E3.out, ht.out, hj4]
          have HS := Lib.hid hst
          clear hst hj4
          go_wp2_with (first
            | (go_at_call 132; refine (strip_is t s3 _ HS.out).mono ?_; rintro e w' ⟨rfl, rfl⟩)
            | (go_at_call 130; refine (value_is _ s3 n ok _ (by omega) D3.out HN.out).mono ?_; rintro e w' ⟨rfl, rfl⟩))
          go_ret2
          exact ⟨rfl, hb⟩
end Go.Proofs.YtkobkeopajohiaaGreatDoor
