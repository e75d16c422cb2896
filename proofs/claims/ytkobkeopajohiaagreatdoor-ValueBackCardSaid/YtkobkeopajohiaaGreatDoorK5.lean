/-
  CONTRACTS of a vint.Reader, more: Int, Text, Err, Done, Read.
-/
import Derived.Test.YtkobkeopajohiaaGreatDoorK4
import Derived.Test.YtkobkeopajohiaaGreatDoorK2
import Derived.Test.YtkobkeopajohiaaGreatDoorQ1
namespace Go.Proofs.YtkobkeopajohiaaGreatDoor
open Go.RowKit Go.Lib

theorem xor_i64_0 (a : Nat) (h : a < 4611686018427387904) : bits .xor .i64 (a : Int) 0 = (a : Int) := by
  unfold bits
  show IntKind.i64.wrap (((BitVec.ofInt 64 (a : Int) ^^^ BitVec.ofInt 64 0).toNat : Nat) : Int) = _
  rw [BitVec.toNat_xor, ofInt_u64 a (by omega), show (BitVec.ofInt 64 0).toNat = 0 from rfl, Nat.xor_zero]
  simp [IntKind.wrap, IntKind.bits, IntKind.signed]
  omega
theorem xor_i64_1 (a : Nat) (h : a < 4611686018427387904) : bits .xor .i64 (a : Int) (-1) = -(a : Int) - 1 := by
  unfold bits
  show IntKind.i64.wrap (((BitVec.ofInt 64 (a : Int) ^^^ BitVec.ofInt 64 (-1)).toNat : Nat) : Int) = _
  rw [BitVec.toNat_xor, ofInt_u64 a (by omega), show (BitVec.ofInt 64 (-1)).toNat = 2 ^ 64 - 1 from rfl, xor_ones 64 a (by omega)]
  simp [IntKind.wrap, IntKind.bits, IntKind.signed]
  omega
theorem unfold_back (n : Int) (hn : -1000000000000000000 ≤ n ∧ n ≤ 1000000000000000000) (u : Nat) (hu : fold n = u) :
    bits .xor .i64 ((u : Int) / 2) (wrap64 (-wrap64 (bits .and .u64 (u : Int) 1))) = n := by
  have hb : u < 4611686018427387904 := by rw [← hu]; unfold fold; split <;> omega
  have e1 : bits .and .u64 (u : Int) 1 = ((u % 2 : Nat) : Int) := by
    rw [show (1 : Int) = ((1 : Nat) : Int) from rfl, u64_and_nat u 1 (by omega) (by decide), Nat.and_one_is_mod]
  have e2 : (u : Int) / 2 = ((u / 2 : Nat) : Int) := by omega
  rw [e1, e2]
  unfold fold at hu
  by_cases h0 : 0 ≤ n
  · rw [if_pos h0] at hu
    rw [show u % 2 = 0 by omega]
    rw [show wrap64 (-wrap64 ((0 : Nat) : Int)) = 0 by decide +kernel, xor_i64_0 _ (by omega)]
    omega
  · rw [if_neg h0] at hu
    rw [show u % 2 = 1 by omega]
    rw [show wrap64 (-wrap64 ((1 : Nat) : Int)) = -1 by decide +kernel, xor_i64_1 _ (by omega)]
    omega
set_option maxRecDepth 100000 in
theorem rInt (n : Int) (hn : -1000000000000000000 ≤ n ∧ n ≤ 1000000000000000000) (r : Nat) (s : ByteArray) (p : Nat) (rest : List UInt8) (hs : s.size ≤ 1000000) (hd : s.data.toList.drop p = vint (fold n) ++ rest) (w : World) (hw : Rd w r s p) :
    Calls Tryz.prog 107 #[.pointer (some ⟨r, 0, none⟩)] w fun e w' => e = .returned (.int .i64 n) ∧ Rd w' r s (p + (vint (fold n)).length) ∧ KeptR r w w' := by
  have HU := Lib.hid (rUint (fold n) (fold_lt n hn) r s p rest hs hd w hw)
  have hx := unfold_back n hn (fold n) rfl
  have hb : (fold n : Int) < 4611686018427387904 := by unfold fold; split <;> omega
  clear hd hw
  generalize fold n = u at *
  go_enter Tryz.func107, Tryz.ntmps107
  go_wp2_with (first | (go_at_call 106; fail))
  go_at_call 106
  refine HU.out.mono ?_
  rintro e w1 ⟨rfl, hr1, hk1⟩
  go_wp2
  go_ret
  exact ⟨rfl, hr1, hk1⟩
theorem drop_len {s : ByteArray} {p : Nat} {l : List UInt8} (h : s.data.toList.drop p = l) (hl : 0 < l.length) : p + l.length = s.size := by
  have := congrArg List.length h
  rw [List.length_drop, ← size_eq] at this
  omega
set_option maxRecDepth 100000 in
theorem rText (t : ByteArray) (ht : t.size ≤ 2000) (r : Nat) (s : ByteArray) (p : Nat) (rest : List UInt8) (hs : s.size ≤ 1000000) (hd : s.data.toList.drop p = vint t.size ++ (t.data.toList ++ rest)) (w : World) (hw : Rd w r s p) :
    Calls Tryz.prog 108 #[.pointer (some ⟨r, 0, none⟩), .int .i64 2000] w fun e w' => e = .returned (.string t) ∧ Rd w' r s (p + (vint t.size).length + t.size) ∧ KeptR r w w' := by
  have HU := Lib.hid (rUint t.size (by omega) r s p _ hs hd w hw)
  have hv : 0 < (vint t.size).length := by rw [vint]; split <;> simp
  have hlen := drop_len hd (by rw [List.length_append]; omega)
  rw [List.length_append, List.length_append, ← size_eq] at hlen
  have hex : s.extract (p + (vint t.size).length) (p + (vint t.size).length + t.size) = t := by
    apply ByteArray.ext
    apply Array.toList_inj.1
    rw [extract_data, Nat.add_sub_cancel_left, ← List.drop_drop, hd, List.drop_left, size_eq, List.take_left]
  obtain ⟨q, hq⟩ : ∃ q, p + (vint t.size).length = q := ⟨_, rfl⟩
  rw [hq] at HU hex ⊢
  have HEX := Lib.hid hex
  have hqs : q + t.size ≤ s.size := by omega
  clear hd hw hv hlen hq hex
  have HT : Hid (∃ u, t.size = u) := Lib.hid ⟨_, rfl⟩
  obtain ⟨u, hu⟩ := HT.out
  rw [hu] at HU HEX hqs ht ⊢
  clear hu HT
  have hg : ¬ (2000 : Int) < (u : Int) := by omega
  have hh : ¬ (s.size : Int) - (q : Int) < (u : Int) := by omega
  have hqi : (q : Int) ≤ 1000000 := by omega
  go_enter Tryz.func108, Tryz.ntmps108
  go_wp2_with (first | (go_at_call 106; fail))
  go_at_call 106
  refine HU.out.mono ?_
  rintro e w1 ⟨rfl, hr1, hk1⟩
  obtain ⟨hl, c0, c1, c2, hfz⟩ := hr1
  have HR1 : Hid (Rd w1 r s q) := Lib.hid ⟨hl, c0, c1, c2, hfz⟩
  go_wp2
  go_quiet (fail)
  go_wp2
  go_quiet (fail)
  go_wp2
  go_ret
  exact ⟨by rw [← HEX.out]; rfl, ((HR1.out.drewN _).set _ _ (by omega)).drewN _, ((hk1.drewN _).set _ _).drewN _⟩
set_option maxRecDepth 100000 in
theorem rErr (r : Nat) (s : ByteArray) (p : Nat) (w : World) (hw : Rd w r s p) :
    Calls Tryz.prog 109 #[.pointer (some ⟨r, 0, none⟩)] w fun e w' => e = .returned (.int .i64 0) ∧ w = w' := by
  obtain ⟨hl, c0, c1, c2, hfz⟩ := hw
  go_enter Tryz.func109, Tryz.ntmps109
  go_wp2
  go_ret
  exact ⟨rfl, rfl⟩
set_option maxRecDepth 100000 in
theorem rDone (r : Nat) (s : ByteArray) (w : World) (hw : Rd w r s s.size) :
    Calls Tryz.prog 36 #[.pointer (some ⟨r, 0, none⟩)] w fun e w' => e = .returned (.int .i64 0) ∧ Below w.heap.size w w' := by
  obtain ⟨hl, c0, c1, c2, hfz⟩ := hw
  have hd : decide ((s.size : Int) < (s.size : Int)) = false := decide_eq_false (by omega)
  go_enter Tryz.func36, Tryz.ntmps36
  go_wp2
  go_quiet (fail)
  go_wp2
  go_ret
  exact ⟨rfl, below_drewN (Below.refl _ _) _⟩
set_option maxRecDepth 100000 in
theorem rRead (s : ByteArray) (w : World) :
    Calls Tryz.prog 31 #[.string s] w fun e w' => ∃ r, e = .returned (.pointer (some ⟨r, 0, none⟩)) ∧ w.heap.size ≤ r ∧ Rd w' r s 0 ∧ Below w.heap.size w w' := by
  go_enter Tryz.func31, Tryz.ntmps31
  go_wp2
  go_ret
  refine ⟨w.heap.size, rfl, Nat.le_refl _, ⟨by simp, ?_, ?_, ?_, by simp⟩, by go_grown⟩
  all_goals
    rw [World.cell?_alloc_at _ _ _ _ rfl]
    rfl
end Go.Proofs.YtkobkeopajohiaaGreatDoor
