/-
  CONTRACTS of a vint.Reader: what a Writer's numbers read as.
-/
import Derived.Test.YtkobkeopajohiaaGreatDoorK1
import Derived.Deep.QuietTactic
import Derived.BigQuiet
import Derived.Deep.RegionWith
namespace Go.Proofs.YtkobkeopajohiaaGreatDoor
open Go.RowKit Go.Lib

/-- block r is a reader of s at a place, without an error -/
structure Rd (w : World) (r : Nat) (s : ByteArray) (at' : Nat) : Prop where
  lt : r < w.heap.size
  c0 : w.cell? ⟨r, 0, none⟩ = some (.string s)
  c1 : w.cell? ⟨r, 1, none⟩ = some (.int .i64 (at' : Int))
  c2 : w.cell? ⟨r, 2, none⟩ = some (.int .i64 0)
  fz : w.frozen? ⟨r, 1, none⟩ = false
theorem Rd.drewN {w : World} {r : Nat} {s : ByteArray} {p : Nat} (h : Rd w r s p) (n : Nat) : Rd (w.drewN n) r s p :=
  ⟨by simpa using h.lt, by simpa using h.c0, by simpa using h.c1, by simpa using h.c2, by simpa using h.fz⟩
/-- nothing but block r has turned -/
def KeptR (r : Nat) (w w' : World) : Prop := Below r w w' ∧ w'.heap.size = w.heap.size ∧ ∀ k, k ≠ r → w'.heap[k]? = w.heap[k]?
theorem KeptR.refl (r : Nat) (w : World) : KeptR r w w := ⟨Below.refl _ _, rfl, fun _ _ => rfl⟩
theorem KeptR.trans {r : Nat} {w w' w'' : World} (h : KeptR r w w') (k : KeptR r w' w'') : KeptR r w w'' := ⟨h.1.trans k.1, k.2.1.trans h.2.1, fun i h1 => (k.2.2 i h1).trans (h.2.2 i h1)⟩
theorem KeptR.drewN {r : Nat} {w w' : World} (h : KeptR r w w') (n : Nat) : KeptR r w (w'.drewN n) := h.trans ⟨⟨rfl, rfl, rfl, Nat.le_refl _, fun _ _ => rfl⟩, rfl, fun _ _ => rfl⟩
theorem KeptR.set {r : Nat} {w w' : World} (h : KeptR r w w') (j : Nat) (v : Value) : KeptR r w (w'.setCell ⟨r, j, none⟩ v) :=
  h.trans ⟨(Below.refl _ _).setCell (p := ⟨r, j, none⟩) (Nat.le_refl _) v, by simp [World.setCell], fun k h1 => Below.heap_setCell _ _ _ _ h1⟩
theorem Rd.set {w : World} {r : Nat} {s : ByteArray} {p : Nat} (h : Rd w r s p) (q : Nat) (z : Int) (hz : z = (q : Int)) : Rd (w.setCell ⟨r, 1, none⟩ (.int .i64 z)) r s q := by
  subst hz
  exact ⟨by simpa [World.setCell] using h.lt, (World.cell?_setCell_other _ _ _ _ (by simp)).trans h.c0, World.cell?_setCell_same _ _ _ h.c1, (World.cell?_setCell_other _ _ _ _ (by simp)).trans h.c2, by rw [World.frozen?_setCell]; exact h.fz⟩
theorem and_127 (c : Nat) (h : c < 256) : bits .and .u8 (c : Int) 127 = ((c % 128 : Nat) : Int) := by
  rw [show (127 : Int) = ((127 : Nat) : Int) from rfl, u8_and_nat c 127 h (by decide)]
  congr 1
  exact Nat.and_two_pow_sub_one_eq_mod c 7
theorem or_step (X c k : Nat) (hX : X < 2 ^ (7 * k)) (hc : c < 256) (h : X + c % 128 * 2 ^ (7 * k) < 18446744073709551616) :
    bits .or .u64 (X : Int) (IntKind.u64.wrap (IntKind.u64.wrap (bits .and .u8 (c : Int) 127) * 2 ^ (7 * k))) = ((X + c % 128 * 2 ^ (7 * k) : Nat) : Int) := by
  have e1 : IntKind.u64.wrap (bits .and .u8 (c : Int) 127) = ((c % 128 : Nat) : Int) := by rw [and_127 c hc, IntKind.wrap_u64]; omega
  have e2 : IntKind.u64.wrap (((c % 128 : Nat) : Int) * 2 ^ (7 * k)) = ((c % 128 * 2 ^ (7 * k) : Nat) : Int) := by
    rw [show (((c % 128 : Nat) : Int) * 2 ^ (7 * k)) = ((c % 128 * 2 ^ (7 * k) : Nat) : Int) by push_cast; rfl, IntKind.wrap_u64]
    exact Int.emod_eq_of_lt (by omega) (by omega)
  rw [e1, e2, u64_or_nat _ _ (by omega) (by omega), Nat.or_comm, nat_join (7 * k) _ X (Nat.mul_mod_left _ _) hX]
  congr 1
  omega
/-- the first byte of a number's bytes -/
theorem vint_head (y : Nat) : ∃ c : UInt8, ∃ l, vint y = c :: l ∧ (y < 128 → l = [] ∧ c.toNat = y) ∧ (¬ y < 128 → l = vint (y / 128) ∧ c.toNat = y % 128 + 128) := by
  by_cases h : y < 128
  · exact ⟨_, _, vint_lo y h, fun _ => ⟨rfl, by rw [UInt8.toNat_ofNat']; omega⟩, fun h' => absurd h h'⟩
  · exact ⟨_, _, vint_hi y h, fun h' => absurd h' h, fun _ => ⟨rfl, by rw [UInt8.toNat_ofNat']; omega⟩⟩
theorem at_drop {s : ByteArray} {q : Nat} {c : UInt8} {l : List UInt8} (h : s.data.toList.drop q = c :: l) : ∃ hq : q < s.size, s[q]'hq = c ∧ s.data.toList.drop (q + 1) = l := by
  have hq : q < s.data.toList.length := by
    rcases Nat.lt_or_ge q s.data.toList.length with h' | h'
    · exact h'
    · rw [List.drop_eq_nil_of_le h'] at h; cases h
  rw [List.drop_eq_getElem_cons hq] at h
  simp only [List.cons.injEq] at h
  exact ⟨by rw [size_eq]; exact hq, h.1, h.2⟩
set_option maxHeartbeats 3200000 in
set_option maxRecDepth 100000 in
theorem rUint (u : Nat) (hu : u < 18446744073709551616) (r : Nat) (s : ByteArray) (p : Nat) (rest : List UInt8) (hs : s.size ≤ 1000000) (hd : s.data.toList.drop p = vint u ++ rest) (w : World) (hw : Rd w r s p) :
    Calls Tryz.prog 106 #[.pointer (some ⟨r, 0, none⟩)] w fun e w' => e = .returned (.int .u64 (u : Int)) ∧ Rd w' r s (p + (vint u).length) ∧ KeptR r w w' := by
  have HD := Lib.hid hd
  have HW := Lib.hid hw
  clear hd hw
  go_enter Tryz.func106, Tryz.ntmps106
  go_wp2
  go_loopw [3, 4] (fun a i wr => ∃ (k X y : Nat), a = .int .u64 (X : Int) ∧ i = .int .i64 (k : Int) ∧ k ≤ 9 ∧ Hid (X < 2 ^ (7 * k) ∧ X + y * 2 ^ (7 * k) = u ∧ (k = 0 ∨ 1 ≤ y) ∧ s.data.toList.drop (p + k) = vint y ++ rest ∧ k + (vint y).length = (vint u).length) ∧ Hid (Rd wr r s p) ∧ Hid (KeptR r w wr)) (fun _ i _ => 10 - (RowKit.intOf i).toNat)
  case atStart => exact ⟨0, 0, u, rfl, rfl, by omega, Lib.hid ⟨by simp, by simp, .inl rfl, HD.out, by simp⟩, HW, Lib.hid (KeptR.refl _ _)⟩
  case round =>
    obtain ⟨k, X, y, rfl, rfl, hk, hinv, hrd, hkp⟩ := hrel
    obtain ⟨hX, hsum, hy, hdr, hlen⟩ := hinv.out
    obtain ⟨c8, l8, hv, hlo, hhi⟩ := vint_head y
    rw [hv, List.cons_append] at hdr
    obtain ⟨hq, hsc, hdr2⟩ := at_drop hdr
    obtain ⟨hl, c0, c1, c2, hfz⟩ := hrd.out
    obtain ⟨q, hqe⟩ : ∃ q : Nat, q = p + k := ⟨_, rfl⟩
    have hpq : (p : Int) + (k : Int) = (q : Int) := by omega
    have hq' : q < s.size := by omega
    have hsc' : ((s[q]'hq').toNat : Int) = ((c8.toNat : Nat) : Int) := by subst hqe; rw [hsc]
    have hc256 := c8.toNat_lt
    generalize c8.toNat = c at *
    have hpw : 0 < 2 ^ (7 * k) := Nat.two_pow_pos _
    have hcy : c % 128 ≤ y := by
      by_cases h : y < 128
      · have := (hlo h).2; omega
      · have := (hhi h).2; omega
    have hm := Nat.mul_le_mul_right (2 ^ (7 * k)) hcy
    have hor := or_step X c k hX hc256 (by omega)
    obtain ⟨Z, hZ⟩ : ∃ Z, Z = X + c % 128 * 2 ^ (7 * k) := ⟨_, rfl⟩
    rw [← hZ] at hor
    have hk9 : (k : Int) = 9 → c ≤ 1 := fun h => by
      obtain rfl : k = 9 := by omega
      have : y ≤ 1 := by omega
      have := (hlo (by omega)).2; omega
    have hc0 : k = 0 ∨ 1 ≤ c := by
      rcases hy with h | h
      · exact .inl h
      · refine .inr ?_
        by_cases h2 : y < 128
        · have := (hlo h2).2; omega
        · have := (hhi h2).2; omega
    have hnd : ¬ (s.size : Int) ≤ (q : Int) := by omega
    have hdd : decide ((s.size : Int) ≤ (q : Int)) = false := decide_eq_false hnd
    have HP : Hid ((c < 128 ↔ y < 128) ∧ (y < 128 → Z = u ∧ k + 1 = (vint u).length) ∧ (¬ y < 128 → k + 1 ≤ 9 ∧ Z < 2 ^ (7 * (k + 1)) ∧ Z + y / 128 * 2 ^ (7 * (k + 1)) = u ∧ 1 ≤ y / 128 ∧ s.data.toList.drop (p + (k + 1)) = vint (y / 128) ++ rest ∧ k + 1 + (vint (y / 128)).length = (vint u).length)) := Lib.hid (by
      refine ⟨?_, fun h => ?_, fun h => ?_⟩
      · by_cases h : y < 128
        · have := (hlo h).2; omega
        · have := (hhi h).2; omega
      · obtain ⟨e1, e2⟩ := hlo h
        rw [hv, e1] at hlen
        refine ⟨?_, by simpa using hlen⟩
        rw [hZ, e2, Nat.mod_eq_of_lt h]; exact hsum
      · obtain ⟨e1, e2⟩ := hhi h
        have hpow : 2 ^ (7 * (k + 1)) = 128 * 2 ^ (7 * k) := by rw [Nat.mul_add, Nat.pow_add]; omega
        have hc128 : c % 128 = y % 128 := by omega
        have hym : y * 2 ^ (7 * k) = y / 128 * (128 * 2 ^ (7 * k)) + y % 128 * 2 ^ (7 * k) := by
          rw [← Nat.mul_assoc, ← Nat.add_mul]; congr 1; omega
        refine ⟨?_, ?_, ?_, by omega, ?_, ?_⟩
        · have h1 : 128 * 2 ^ (7 * k) ≤ y * 2 ^ (7 * k) := Nat.mul_le_mul_right _ (by omega)
          have h2 : 2 ^ (7 * (k + 1)) < 2 ^ 64 := by rw [hpow]; omega
          have := (Nat.pow_lt_pow_iff_right (by decide : 1 < 2)).1 h2
          omega
        · rw [hpow, hZ, hc128]
          have : y % 128 * 2 ^ (7 * k) ≤ 127 * 2 ^ (7 * k) := Nat.mul_le_mul_right _ (by omega)
          omega
        · rw [hpow, hZ, hc128]; omega
        · rw [← e1]; exact hdr2
        · rw [hv, e1, List.length_cons] at hlen; omega)
    clear hX hsum hy hdr hlen hv hlo hhi hsc hdr2 hcy hm hZ hpw hq hinv
    have hkk : k = 9 ∨ k = 0 ∨ (1 ≤ k ∧ k ≤ 8) := by omega
    have HQE := Lib.hid hqe
    clear hqe
    by_cases hy : y < 128
    · obtain ⟨hZu, hlu⟩ := HP.out.2.1 hy
      have hc128 : (c : Int) < 128 := by have := HP.out.1.2 hy; omega
      have HZ := Lib.hid hZu
      have HLU := Lib.hid hlu
      clear HP hZu hlu hy
      rcases hkk with h9 | h0 | ⟨h1, h8⟩
      · have hb9 : ((k : Int) == 9) = true := by rw [beq_iff_eq]; omega
        have hc1 : ¬ 1 < (c : Int) := by have := hk9 (by omega); omega
        have hkp0 : 0 < (k : Int) := by omega
        have hcz : ((c : Int) == 0) = false := by rw [beq_eq_false_iff_ne]; rcases hc0 with h | h <;> omega
        clear h9 hk9 hc0
        go_wp2
        go_quiet (fail)
        go_wp2
        go_quiet (fail)
        go_wp2
        go_ret
        exact ⟨by rw [← HZ.out]; rfl, (hrd.out.drewN _).set _ _ (by have := HLU.out; omega), (hkp.out.drewN _).set _ _⟩
      · have hb9 : ((k : Int) == 9) = false := by rw [beq_eq_false_iff_ne]; omega
        have hkp0 : ¬ 0 < (k : Int) := by omega
        clear h0 hk9 hc0
        go_wp2
        go_quiet (fail)
        go_wp2
        go_quiet (fail)
        go_wp2
        go_ret
        exact ⟨by rw [← HZ.out]; rfl, (hrd.out.drewN _).set _ _ (by have := HLU.out; omega), (hkp.out.drewN _).set _ _⟩
      · have hb9 : ((k : Int) == 9) = false := by rw [beq_eq_false_iff_ne]; omega
        have hkp0 : 0 < (k : Int) := by omega
        have hcz : ((c : Int) == 0) = false := by rw [beq_eq_false_iff_ne]; rcases hc0 with h | h <;> omega
        clear h1 hk9 hc0
        go_wp2
        go_quiet (fail)
        go_wp2
        go_quiet (fail)
        go_wp2
        go_ret
        exact ⟨by rw [← HZ.out]; rfl, (hrd.out.drewN _).set _ _ (by have := HLU.out; omega), (hkp.out.drewN _).set _ _⟩
    · obtain ⟨n1, n2, n3, n4, n5, n6⟩ := HP.out.2.2 hy
      have hc128 : ¬ (c : Int) < 128 := by have := mt HP.out.1.1 hy; omega
      have HN := Lib.hid (And.intro n2 (And.intro n3 (And.intro n4 (And.intro n5 n6))))
      clear HP n2 n3 n4 n5 n6 hy
      rcases hkk with h9 | h0 | ⟨h1, h8⟩
      · exact absurd n1 (by omega)
      · have hb9 : ((k : Int) == 9) = false := by rw [beq_eq_false_iff_ne]; omega
        have hkp0 : ¬ 0 < (k : Int) := by omega
        clear h0 hk9 hc0
        go_wp2
        go_quiet (fail)
        go_wp2
        go_quiet (fail)
        go_wp2
        go_roundw
        case rel => exact ⟨k + 1, Z, y / 128, rfl, by simp, n1, Lib.hid ⟨HN.out.1, HN.out.2.1, .inr HN.out.2.2.1, HN.out.2.2.2.1, HN.out.2.2.2.2⟩, Lib.hid (hrd.out.drewN _), Lib.hid (hkp.out.drewN _)⟩
        case measure => simp [RowKit.intOf]; omega
      · have hb9 : ((k : Int) == 9) = false := by rw [beq_eq_false_iff_ne]; omega
        have hkp0 : 0 < (k : Int) := by omega
        have hcz : ((c : Int) == 0) = false := by rw [beq_eq_false_iff_ne]; rcases hc0 with h | h <;> omega
        clear h1 hk9 hc0
        go_wp2
        go_quiet (fail)
        go_wp2
        go_quiet (fail)
        go_wp2
        go_roundw
        case rel => exact ⟨k + 1, Z, y / 128, rfl, by simp, n1, Lib.hid ⟨HN.out.1, HN.out.2.1, .inr HN.out.2.2.1, HN.out.2.2.2.1, HN.out.2.2.2.2⟩, Lib.hid (hrd.out.drewN _), Lib.hid (hkp.out.drewN _)⟩
        case measure => simp [RowKit.intOf]; omega
end Go.Proofs.YtkobkeopajohiaaGreatDoor
