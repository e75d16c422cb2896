/-
  CONTRACTS of strconv.FormatUint at base 10 and of deci.Text: a number's text, for every number from -Most to Most; memory that was there stays as it was.
-/
import Derived.Test.YtkobkeopajohiaaGreatDoorC2
import Derived.Lib.ItoaMem
import Derived.BigCall
import Derived.BigGuard
namespace Go.Proofs.YtkobkeopajohiaaGreatDoor
open Go.RowKit Go.Sort Go.Lib

theorem below_grow (w : World) (k : Nat) (os : Array Obj) : Below w.heap.size w (grow (w.drewN k) os) := by
  refine ⟨rfl, rfl, rfl, by show _ ≤ ((w.drewN k).heap ++ os).size; rw [Array.size_append]; exact Nat.le_add_right _ _, fun i hi => ?_⟩
  show ((w.drewN k).heap ++ os)[i]? = _
  rw [Array.getElem?_append_left (by exact hi)]
  rfl

theorem holds_zero0 (w : World) (T : TypeId) (nd : Nat) (hs : nd ≤ 24) : Holds (fun (b : UInt8) => Value.int .u8 (b.toNat : Int)) (w.alloc (.cells zeros24 T)) w.heap.size 0 (Array.replicate nd (0 : UInt8)) := fun j hj => by
  have hj' : j < nd := by simpa using hj
  refine ⟨?_, World.frozen?_alloc_new _ _ _ _⟩
  rw [World.cell?_alloc_new, zeros24_at _ (by omega), getElem!_pos _ j hj]
  simp
theorem fin_pos0 (w : World) (o : Obj) (dk : Array UInt8) (k : Nat) : ∃ os, (putRow (fun (b : UInt8) => Value.int .u8 (b.toNat : Int)) (w.alloc o) w.heap.size 0 dk).drewN k = grow (w.drewN k) os := by
  rw [alloc_eq_grow]
  obtain ⟨os', _, e⟩ := putRow_grow_new (fun (b : UInt8) => Value.int .u8 (b.toNat : Int)) w #[o] w.heap.size 0 dk (Nat.le_refl _)
  exact ⟨os', by rw [e]; rfl⟩

set_option maxHeartbeats 1600000 in
set_option maxRecDepth 100000 in
theorem formatUint_in (u : Nat) (hu64 : u < 18446744073709551616) (w : World) (hG : GP w) :
    Calls Tryz.prog 161 #[.int .u64 u, .int .i64 10] w fun e w' => e = .returned (.string ⟨(decDigits u).toArray⟩) ∧ Below w.heap.size w w' := by
  by_cases hs : u < 100
  · go_enter Tryz.func161, Tryz.ntmps161
    go_wp2_with (go_at_call 170; refine (Tryz.internal_strconv_small u hs _).mono ?_; rintro e w' ⟨rfl, rfl⟩)
    go_ret
    exact ⟨rfl, Below.refl _ _⟩
  · have hu1 : 1 ≤ u := by omega
    have hs' : ¬ (u : Int) < 100 := by omega
    have hnd20 : nDigits u ≤ 20 := by have := numDigits_eq u hu1 hu64; split at this <;> omega
    have hb3 : nDigits u ≤ 24 := by omega
    have hal : Tryz.prog.arrayLen 196 = 24 := by kernel_rfl
    have hsl1 : ∀ W, (Instr.sliceAt 196 (.pointer (some ⟨w.heap.size, 0, none⟩)) none (some (.int .i64 (nDigits u : Int))) none).run Tryz.prog W = .ok (.slice (some ⟨w.heap.size, 0, none⟩) (nDigits u) 24) W := fun W => by
      rw [run_sliceAt_array_h W 196 ⟨w.heap.size, 0, none⟩ Tryz.underlying196 .i64 (nDigits u : Int) (by omega) (by rw [hal]; omega)]
      rw [hal]
      go_simp
    have hH0 := holds_zero0 w 196 (nDigits u) (by omega)
    have hfmt := Tryz.internal_strconv_formatBase10 w.heap.size 0 24 u (Array.replicate (nDigits u) 0) (w.alloc (.cells zeros24 196)) hH0 (by rw [Array.size_replicate]; exact lt_pow_nDigits u) hu64 (by rw [Array.size_replicate]; omega)
    rw [Array.size_replicate] at hfmt
    have HH0 := Lib.hid hH0
    have htab := Lib.hid (show Lib.TabIs Tryz.prog w "internal/strconv.uint64pow10" .u64 Lib.pow10Tab from hG)
    clear hH0 hal hG
    go_enter Tryz.func161, Tryz.ntmps161
    go_wp2_with (first
      | (go_at_call 171; refine (Tryz.internal_strconv_numDigits u hu1 hu64 _ (Lib.tabIs_alloc htab.out _)).mono ?_; rintro e w' ⟨rfl, rfl⟩))
    go_at_call 172
    refine hfmt.mono ?_
    rintro e w' ⟨rfl, k, v', dk, rfl, hF⟩
    have hcv : (convert 59 9 (.slice (some ⟨w.heap.size, 0, none⟩) (nDigits u) 24)).run Tryz.prog ((putRow (fun (b : UInt8) => Value.int .u8 (b.toNat : Int)) (w.alloc (.cells zeros24 196)) w.heap.size 0 dk).drewN k) = .ok (.string ⟨(decDigits u).toArray⟩) ((putRow (fun (b : UInt8) => Value.int .u8 (b.toNat : Int)) (w.alloc (.cells zeros24 196)) w.heap.size 0 dk).drewN k) := by
      have h := run_convert_bytes_back (P := Tryz.prog) ((putRow (fun (b : UInt8) => Value.int .u8 (b.toNat : Int)) (w.alloc (.cells zeros24 196)) w.heap.size 0 dk).drewN k) 59 9 5 ⟨w.heap.size, 0, none⟩ 24 (decDigits u) Tryz.underlying59 Tryz.underlying5 Tryz.underlying9 (fun j hj => by
        rw [row_is_numeral hF j hj, add_plain, World.cell?_drewN]
        exact cell?_putRow (fun (b : UInt8) => Value.int .u8 (b.toNat : Int)) _ w.heap.size 0 _ dk HH0.out (by rw [hF.size, Array.size_replicate]) j (by rw [hF.size]; rw [decDigits_length] at hj; exact hj))
      rw [decDigits_length] at h
      exact h
    go_wp2
    go_ret
    obtain ⟨os, eo⟩ := fin_pos0 w (.cells zeros24 196) dk k
    refine ⟨rfl, ?_⟩
    rw [eo]
    exact below_grow w k os
theorem formatUint_any (u : Int) (w : World) (hG : GP w) (h0 : 0 ≤ u) (h1 : u < 18446744073709551616) :
    Calls Tryz.prog 146 #[.int .u64 u, .int .i64 10] w fun e w' => e = .returned (.string ⟨(decDigits u.toNat).toArray⟩) ∧ Below w.heap.size w w' := by
  obtain ⟨n, rfl⟩ := Int.eq_ofNat_of_zero_le h0
  have hm := Lib.hid (formatUint_in n (by omega) w hG)
  clear hG
  go_enter Tryz.func146, Tryz.ntmps146
  go_wp2_with (first
    | (go_at_call 161; refine hm.out.mono ?_; rintro e w1 ⟨rfl, hb⟩))
  go_ret
  exact ⟨rfl, hb⟩

theorem formatUint_is (u : Int) (s : ByteArray) (w : World) (hG : GP w) (h0 : 0 ≤ u) (h1 : u < 18446744073709551616) (hs : s.data.toList = decDigits u.toNat) :
    Calls Tryz.prog 146 #[.int .u64 u, .int .i64 10] w fun e w' => e = .returned (.string s) ∧ Below w.heap.size w w' := by
  refine (formatUint_any u w hG h0 h1).mono ?_
  rintro e w1 ⟨rfl, hb⟩
  refine ⟨?_, hb⟩
  rw [← hs]
theorem ret_str {s : ByteArray} {l : List UInt8} (h : s.data.toList = l) : Ending.returned (.string s) = .returned (.string ⟨l.toArray⟩) := by rw [← h]

theorem trimRight_is (s t : ByteArray) (w : World) (hs : s.size ≤ 9223372036854775807) (h : t.data.toList = trimRightB s.data.toList 48) :
    Calls Tryz.prog 147 #[.string s, .string ⟨#[48]⟩] w fun e w' => e = .returned (.string t) ∧ w = w' := by
  refine (Tryz.strings_TrimRight_one s 48 (by decide) w hs).mono ?_
  rintro e w' ⟨rfl, rfl⟩
  refine ⟨?_, rfl⟩
  rw [← h]
theorem dec_size (u : Nat) (h : u < 18446744073709551616) : (decDigits u).length ≤ 20 := by
  rw [decDigits_length]
  by_cases h1 : 1 ≤ u
  · have := numDigits_eq u h1 h; split at this <;> omega
  · rw [nDigits_small (by omega)]; omega

set_option maxHeartbeats 400000 in
theorem text_any (a : Int) (w : World) (hG : GP w) (h : -999999999999999999 ≤ a ∧ a ≤ 999999999999999999) :
    Calls Tryz.prog 102 #[.int .i64 a] w fun e w' => e = .returned (.string ⟨(Tab.text a).toArray⟩) ∧ Below w.heap.size w w' := by
  obtain ⟨h0, h1⟩ := h
  have sz : (a.natAbs : Int) ≤ 999999999999999999 := by omega
  obtain ⟨s1, e1⟩ : ∃ s1 : ByteArray, s1.data.toList = decDigits ((a.natAbs : Int) / 10000).toNat := ⟨⟨(decDigits _).toArray⟩, rfl⟩
  obtain ⟨s2, e2⟩ : ∃ s2 : ByteArray, s2.data.toList = decDigits (10000 + (a.natAbs : Int) % 10000).toNat := ⟨⟨(decDigits _).toArray⟩, rfl⟩
  obtain ⟨s3, e3⟩ : ∃ s3 : ByteArray, s3.data.toList = trimRightB (s2.extract 1 s2.size).data.toList 48 := ⟨⟨(trimRightB _ _).toArray⟩, rfl⟩
  have n1 : s1.size ≤ 20 := by rw [size_eq, e1]; exact dec_size _ (by omega)
  have l2 : s2.size = 5 := by
    rw [size_eq, e2, decDigits_length]
    exact nDigits_unique 4 _ (by omega) (by omega)
  have d3 : (s2.extract 1 s2.size).data.toList = (decDigits (10000 + a.natAbs % 10000)).drop 1 := by
    rw [extract_data, e2, l2, show (10000 + (a.natAbs : Int) % 10000).toNat = 10000 + a.natAbs % 10000 by omega]
    rw [List.take_of_length_le]
    rw [List.length_drop, decDigits_length, nDigits_unique 4 _ (by omega) (by omega)]; omega
  have n3 : s3.size ≤ 5 := by
    rw [size_eq, e3, d3]
    unfold trimRightB
    have h1 := (List.dropWhile_sublist (fun x => x == (48 : UInt8)) (l := ((decDigits (10000 + a.natAbs % 10000)).drop 1).reverse)).length_le
    rw [List.length_reverse, List.length_drop, decDigits_length, nDigits_unique 4 _ (by omega) (by omega)] at h1
    rw [List.length_reverse]; omega
  have l3 : 1 ≤ s2.size := by omega
  have ex : (s2.extract 1 s2.size).size ≤ 9223372036854775807 := by rw [size_eq, d3, List.length_drop, decDigits_length, nDigits_unique 4 _ (by omega) (by omega)]; omega
  have hq : ((a.natAbs : Int) / 10000).toNat = a.natAbs / 10000 := by omega
  rw [hq] at e1
  have E1 := Lib.hid e1
  have E2 := Lib.hid e2
  have E3 := Lib.hid e3
  have D3 := Lib.hid d3
  have EX := Lib.hid ex
  clear l2 e1 e2 e3 d3 ex hq
  by_cases hp : 0 < (a.natAbs : Int) % 10000
  · have hfin : s1.data.toList ++ (46 :: s3.data.toList) = decDigits (a.natAbs / 10000) ++ Tab.frac (a.natAbs % 10000) := by
      rw [E1.out, E3.out, D3.out]
      unfold Tab.frac
      rw [if_neg (by omega)]
    have HF := Lib.hid hfin
    clear hfin
    by_cases hn : a < 0
    all_goals
      go_enter Tryz.func102, Tryz.ntmps102
      go_wp2_with (first
        | (go_at_call 115; refine (size_any a _ (by omega) (by omega)).mono ?_; rintro e w' ⟨rfl, rfl⟩))
      go_at_call 146
      refine (formatUint_is _ s1 _ hG (by omega) (by omega) (by rw [E1.out]; congr 1)).mono ?_
      rintro e w1 ⟨rfl, hb1⟩
      have hG1 := hG.below hb1
      go_wp2_with (first | (go_at_call 146; fail))
      go_at_call 146
      refine (formatUint_is _ s2 _ hG1 (by omega) (by omega) E2.out).mono ?_
      rintro e w2 ⟨rfl, hb2⟩
      go_wp2_with (first | (go_at_call 147; refine (trimRight_is _ s3 _ EX.out E3.out).mono ?_; rintro e w' ⟨rfl, rfl⟩))
      go_ret
      refine ⟨ret_str ?_, hb1.trans (hb2.mono hb1.size)⟩
      simp only [ByteArray.data_append, Array.toList_append]
    · unfold Tab.text
      rw [if_pos hn, ← HF.out]; try rfl
    · unfold Tab.text
      rw [if_neg (by omega), ← HF.out]; try rfl
  · have hfin : s1.data.toList = decDigits (a.natAbs / 10000) ++ Tab.frac (a.natAbs % 10000) := by
      rw [E1.out]
      unfold Tab.frac
      rw [if_pos (by omega), List.append_nil]
    have HF := Lib.hid hfin
    clear hfin
    by_cases hn : a < 0
    all_goals
      go_enter Tryz.func102, Tryz.ntmps102
      go_wp2_with (first
        | (go_at_call 115; refine (size_any a _ (by omega) (by omega)).mono ?_; rintro e w' ⟨rfl, rfl⟩))
      go_at_call 146
      refine (formatUint_is _ s1 _ hG (by omega) (by omega) (by rw [E1.out]; congr 1)).mono ?_
      rintro e w1 ⟨rfl, hb1⟩
      go_wp2
      go_ret
      refine ⟨ret_str ?_, hb1⟩
      try simp only [ByteArray.data_append, Array.toList_append]
    · unfold Tab.text
      rw [if_pos hn, ← HF.out]; try rfl
    · unfold Tab.text
      rw [if_neg (by omega), ← HF.out]; try rfl
end Go.Proofs.YtkobkeopajohiaaGreatDoor
