/-
  CONTRACT of the reference's Cut: digits without the last ones, halves up.
-/
import Derived.Test.YtkobkeopajohiaaGreatDoorR2
import Derived.LoopTactic

namespace Go.Proofs.YtkobkeopajohiaaGreatDoor
open Go.RowKit Go.Lib

theorem inc_is (s t : ByteArray) (w : World) (hs : s.size ≤ 4294967296) (h : t.data.toList = Tab.inc s.data.toList) :
    Calls Tryz.prog 143 #[.string s] w fun e w' => e = .returned (.string t) ∧ Below w.heap.size w w' := by
  refine (inc_any s w hs).mono ?_
  rintro e w' ⟨rfl, hb⟩
  exact ⟨by rw [← h], hb⟩

theorem refCut_any (s : ByteArray) (n : Nat) (w : World) (hs : s.size ≤ 4294967) (h0 : 1 ≤ n) (h1 : n ≤ 4294967) :
    Calls Tryz.prog 131 #[.string s, .int .i64 n] w fun e w' => e = .returned (.string ⟨(Tab.cutR s.data.toList n).toArray⟩) ∧ Below w.heap.size w w' := by
  generalize hR : Tab.cutR s.data.toList n = R
  have HR := Lib.hid hR
  clear hR
  have hn0 : ((n : Int) == 0) = false := by simp; omega
  go_enter Tryz.func131, Tryz.ntmps131
  go_wp2
  go_loop [0] (fun v => ∃ (t : ByteArray) (j : Nat), v = .string t ∧ Hid (t.data.toList = List.replicate j 48 ++ s.data.toList) ∧ Hid (t.size = s.size + j) ∧ t.size ≤ 8589934 + 10 ∧ Hid (j ≤ n + 1 - s.size)) (fun v => match v with | .string t => n + 1 - t.size | _ => 0)
  case atStart => exact ⟨s, 0, rfl, rfl, rfl, by omega, Nat.zero_le _⟩
  case round =>
    obtain ⟨t, j, rfl, ht, htz, htb, hj⟩ := hrel
    by_cases hle : t.size ≤ n
    · have hz2 : (⟨#[48]⟩ ++ t : ByteArray).size = t.size + 1 := by rw [ByteArray.size_append]; show 1 + t.size = _; omega
      have hd2 : (⟨#[48]⟩ ++ t : ByteArray).data.toList = List.replicate (j + 1) 48 ++ s.data.toList := by
        rw [ByteArray.data_append, Array.toList_append, ht.out, List.replicate_succ]; rfl
      have HZ := Lib.hid hz2
      have HD := Lib.hid hd2
      have hj1 := hj.out
      have hj2 := htz.out
      have hj3 : j + 1 ≤ n + 1 - s.size := by omega
      have HJ := Lib.hid hj3
      clear hz2 hd2 hj1 hj2 hj3
      go_wp2
      go_round
      case rel => exact ⟨_, j + 1, rfl, HD.out, by have := HZ.out; have := htz.out; show _ = _; omega, by rw [HZ.out]; omega, HJ.out⟩
      case measure => show n + 1 - (⟨#[48]⟩ ++ t : ByteArray).size < n + 1 - t.size; rw [HZ.out]; omega
    · have hpad : t.data.toList = Tab.padTo n s.data.toList := by
        have hj1 := hj.out
        have hj2 := htz.out
        unfold Tab.padTo
        rw [ht.out, ← size_eq, show j = n + 1 - s.size by omega]
      have hlt : n < t.size := by omega
      have hl : t.size - n < t.data.toList.length := by rw [← size_eq]; omega
      have hix : t.size - n < t.size := by omega
      have hc : (Tab.padTo n s.data.toList).getD ((Tab.padTo n s.data.toList).length - n) 0 = t[t.size - n]'hix := by
        rw [← hpad, ← size_eq, List.getD_eq_getElem?_getD, List.getElem?_eq_getElem hl]; rfl
      have htake : (t.extract 0 (t.size - n)).data.toList = (Tab.padTo n s.data.toList).take ((Tab.padTo n s.data.toList).length - n) := by
        rw [extract_data, ← hpad, ← size_eq]; simp
      have hRR : R = if 53 ≤ t[t.size - n]'hix then Tab.inc ((t.extract 0 (t.size - n)).data.toList) else (t.extract 0 (t.size - n)).data.toList := by
        rw [← HR.out, htake, ← hc]
        unfold Tab.cutR
        rw [if_neg (by omega)]
      have hsz : (t.extract 0 (t.size - n)).size ≤ 4294967296 := by rw [size_eq, extract_data]; simp; omega
      have h53 : 53 ≤ t[t.size - n]'hix ↔ 53 ≤ ((t[t.size - n]'hix).toNat : Int) := by rw [UInt8.le_iff_toNat_le]; show 53 ≤ (t[t.size - n]'hix).toNat ↔ _; omega
      by_cases hb : 53 ≤ ((t[t.size - n]'hix).toNat : Int)
      · rw [if_pos (h53.2 hb)] at hRR
        have HRR := Lib.hid hRR
        have HS := Lib.hid hsz
        clear hpad hc htake hRR hsz h53 hl
        go_wp2_with (first | (go_at_call 143; refine (inc_is _ ⟨R.toArray⟩ _ HS.out HRR.out).mono ?_; rintro e w' ⟨rfl, hb1⟩))
        go_ret
        exact ⟨rfl, hb1⟩
      · rw [if_neg (fun e => hb (h53.1 e))] at hRR
        have HRR := Lib.hid hRR
        clear hpad hc htake hRR hsz h53 hl
        go_wp2
        go_ret
        exact ⟨ret_str HRR.out.symm, Below.refl _ _⟩
end Go.Proofs.YtkobkeopajohiaaGreatDoor
