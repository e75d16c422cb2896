/-
  CONTRACT of the reference's Trunc.
-/
import Derived.Test.YtkobkeopajohiaaGreatDoorR5
import Derived.Deep.QuietTactic
import Derived.BigQuiet
namespace Go.Proofs.YtkobkeopajohiaaGreatDoor
open Go.RowKit Go.Lib

theorem refTrunc_any (a p : Int) (w : World) (ha : -999999999999999999 ≤ a ∧ a ≤ 999999999999999999) :
    Calls Tryz.prog 67 #[.int .i64 a, .int .i64 p] w fun e w' => e = .returned (.int .i64 (Tab.truncS a p)) ∧ Below w.heap.size w w' := by
  rw [← Tab.truncR_eq a p ha]
  obtain ⟨a0, a1⟩ := ha
  by_cases h4 : 4 ≤ p
  · have e : Tab.truncR a p = a := by unfold Tab.truncR; rw [if_pos h4]
    rw [e]
    clear e
    go_enter Tryz.func67, Tryz.ntmps67
    go_wp2
    go_ret
    exact ⟨rfl, Below.refl _ _⟩
  · by_cases h14 : p < -14
    · have e : Tab.truncR a p = 0 := by unfold Tab.truncR; rw [if_neg h4, if_pos h14]
      rw [e]
      clear e
      go_enter Tryz.func67, Tryz.ntmps67
      go_wp2
      go_ret
      exact ⟨rfl, Below.refl _ _⟩
    · obtain ⟨s1, e1⟩ : ∃ s : ByteArray, s.data.toList = decDigits a.natAbs := ⟨⟨(decDigits _).toArray⟩, rfl⟩
      have z1 : s1.size ≤ 20 := by rw [size_eq, e1]; exact dec_size _ (by omega)
      have d1 : Tab.Dig s1.data.toList := by rw [e1]; exact Tab.dig_dec _
      by_cases hsh : (s1.size : Int) ≤ 4 - p
      · have e : Tab.truncR a p = 0 := by unfold Tab.truncR; rw [if_neg h4, if_neg h14, if_pos (by rw [← e1, ← size_eq]; omega)]
        rw [e]
        have E1 := Lib.hid e1
        clear e1 e d1
        go_enter Tryz.func67, Tryz.ntmps67
        go_wp2_with (first
          | (go_at_call 64; refine (refSize_any a _ (by omega) (by omega)).mono ?_; rintro e w' ⟨rfl, rfl⟩)
          | (go_at_call 129; refine (digits_is _ s1 _ (by omega) (by omega) (by rw [E1.out]; congr 1)).mono ?_; rintro e w1 ⟨rfl, hb1⟩))
        go_ret
        exact ⟨rfl, hb1⟩
      · obtain ⟨n, hn⟩ : ∃ n : Nat, (4 - p).toNat = n := ⟨_, rfl⟩
        have hpn : p = 4 - (n : Int) := by omega
        have e : Tab.truncR a p = (Tab.valueR (decide (a < 0)) (s1.data.toList.take (s1.size - n) ++ List.replicate n 48)).1 := by
          unfold Tab.truncR; rw [if_neg h4, if_neg h14, if_neg (by rw [← e1, ← size_eq]; omega), ← e1, ← size_eq, hn]
        rw [e]
        obtain ⟨v, ok, hv⟩ : ∃ v ok, Tab.valueR (decide (a < 0)) (s1.data.toList.take (s1.size - n) ++ List.replicate n 48) = (v, ok) := ⟨_, _, rfl⟩
        rw [hv]
        have hns : n < s1.size := by omega
        have hn1 : 1 ≤ n := by omega
        have hdd : Tab.Dig (s1.data.toList.take (s1.size - n) ++ List.replicate n 48) := by
          refine Tab.Dig.append ?_ (Tab.dig_zeros n)
          have := List.take_append_drop (s1.size - n) s1.data.toList
          rw [← this] at d1
          exact d1.left
        have E1 := Lib.hid e1
        have HV := Lib.hid hv
        have HD := Lib.hid hdd
        have hnp : 4 - p = (n : Int) := by omega
        have HNP := Lib.hid hnp
        clear e1 e d1 hv hdd hn hpn
        go_enter Tryz.func67, Tryz.ntmps67
        go_wp2_with (first
          | (go_at_call 64; refine (refSize_any a _ (by omega) (by omega)).mono ?_; rintro e w' ⟨rfl, rfl⟩))
        go_at_call 129
        refine (digits_is _ s1 _ (by omega) (by omega) (by rw [E1.out]; congr 1)).mono ?_
        rintro e w1 ⟨rfl, hb1⟩
        go_wp2_with (fail)
        clear hnp
        go_loopw [5, 7] (fun v i wr => ∃ (t : ByteArray) (j : Nat), v = .string t ∧ i = .int .i64 j ∧ j ≤ n ∧ Hid (t.size = s1.size) ∧ t.size ≤ 20 ∧ n < t.size ∧ Below w.heap.size w wr ∧ Hid (t.data.toList = s1.data.toList.take (s1.size - n) ++ (List.replicate j 48 ++ s1.data.toList.drop (s1.size - n + j)))) (fun _ i _ => n - (RowKit.intOf i).toNat)
        case atStart => exact ⟨s1, 0, rfl, rfl, by omega, rfl, z1, hns, hb1, by show _ = _ ++ ([] ++ _); rw [List.nil_append, Nat.add_zero, List.take_append_drop]⟩
        case round =>
          obtain ⟨t, j, rfl, rfl, hj, htz, ht20, hnt, hbw, ht⟩ := hrel
          by_cases hlt : j < n
          · have hx0 : 0 ≤ (t.size : Int) - (4 - p) + (j : Int) := by have := HNP.out; omega
            have hx1 : (t.size : Int) - (4 - p) + (j : Int) ≤ t.size := by have := HNP.out; omega
            have hx2 : (t.size : Int) - (4 - p) + (j : Int) + 1 ≤ t.size := by have := HNP.out; omega
            have hX : (t.extract 0 (t.size - n + j) ++ ⟨#[48]⟩ ++ t.extract (t.size - n + j + 1) t.size : ByteArray).data.toList = s1.data.toList.take (s1.size - n) ++ (List.replicate (j + 1) 48 ++ s1.data.toList.drop (s1.size - n + (j + 1))) := by
              have hz := htz.out
              have hl1 : s1.data.toList.length = s1.size := (size_eq s1).symm
              rw [ByteArray.data_append, ByteArray.data_append, Array.toList_append, Array.toList_append, extract_data, extract_data, ht.out, hz]
              have hA : (s1.data.toList.take (s1.size - n)).length = s1.size - n := by rw [List.length_take, hl1]; omega
              have e1 : ((s1.data.toList.take (s1.size - n) ++ (List.replicate j 48 ++ s1.data.toList.drop (s1.size - n + j))).drop 0).take (s1.size - n + j - 0) = s1.data.toList.take (s1.size - n) ++ List.replicate j 48 := by
                rw [List.drop_zero, Nat.sub_zero, ← List.append_assoc]
                exact List.take_left' (by rw [List.length_append, hA, List.length_replicate])
              have e2 : ((s1.data.toList.take (s1.size - n) ++ (List.replicate j 48 ++ s1.data.toList.drop (s1.size - n + j))).drop (s1.size - n + j + 1)).take (s1.size - (s1.size - n + j + 1)) = s1.data.toList.drop (s1.size - n + (j + 1)) := by
                rw [← List.append_assoc, ← List.drop_drop, List.drop_left' (by rw [List.length_append, hA, List.length_replicate]), List.drop_drop]
                exact List.take_of_length_le (by rw [List.length_drop, hl1]; omega)
              rw [e1, e2, List.replicate_succ']
              simp [List.append_assoc]
            have hZ : (t.extract 0 (t.size - n + j) ++ ⟨#[48]⟩ ++ t.extract (t.size - n + j + 1) t.size : ByteArray).size = s1.size := by
              rw [size_eq, hX]
              have hl1 : s1.data.toList.length = s1.size := (size_eq s1).symm
              simp only [List.length_append, List.length_take, List.length_replicate, List.length_drop, hl1]
              omega
            have HX := Lib.hid hX
            have HZ := Lib.hid hZ
            clear hX hZ
            go_wp2
            go_quiet (fail)
            go_wp2
            refine ⟨⟨_, j + 1, rfl, by go_num, by omega, HZ.out, by rw [HZ.out]; exact z1, by rw [HZ.out]; exact hns, below_drewN hbw _, HX.out⟩, ?_⟩
            simp [RowKit.intOf]; omega
          · have hjn : j = n := by omega
            have hfin : t.data.toList = s1.data.toList.take (s1.size - n) ++ List.replicate n 48 := by
              rw [ht.out, hjn, List.drop_eq_nil_of_le (by rw [← size_eq]; omega), List.append_nil]
            have HF := Lib.hid hfin
            have hnp := HNP.out
            clear hfin hjn
            go_wp2_with (first
              | (go_at_call 130; refine (value_is _ t v ok _ (by omega) (by rw [HF.out]; exact HD.out) (by rw [HF.out]; exact HV.out)).mono ?_; rintro e w' ⟨rfl, rfl⟩))
            go_ret
            exact ⟨rfl, hbw⟩
end Go.Proofs.YtkobkeopajohiaaGreatDoor
