/-
  CONTRACT of math/bits.Div64 at the divisor 10000.
-/
import Derived.Test.YtkobkeopajohiaaDoorC5
import Derived.Laws.Bits64b
namespace Go.Proofs.YtkobkeopajohiaaDoor
open Go.RowKit Go.Lib

set_option maxHeartbeats 1600000 in
set_option maxRecDepth 100000 in
theorem div64_ten (hi lo : Nat) (w : World) (h0 : 0 < hi) (h1 : hi < 10000) (hl : lo < 18446744073709551616) :
    Calls Tryd.prog 120 #[.int .u64 hi, .int .u64 lo, .int .u64 10000] w fun e w' => e = .returned (.tuple #[.int .u64 (((hi * 18446744073709551616 + lo) / 10000 : Nat) : Int), .int .u64 (((hi * 18446744073709551616 + lo) % 10000 : Nat) : Int)]) ∧ ∃ n, w' = w.drewN n := by
  have HL : Hid (∀ w, Calls Tryd.prog 136 #[.int .u64 10000] w fun e w' => e = .returned (.int .i64 50) ∧ w' = w) := Lib.hid fun w => by
    have := Tryd.bits_LeadingZeros64 10000 w (by decide) (by decide)
    rw [show (64 - (Lib.bitLen (Int.toNat 10000) : Int)) = 50 by decide] at this
    exact this
  have hh0 : ((hi : Int) == 0) = false := by rw [beq_eq_false_iff_ne]; omega
  have hA : bits BinOp.and IntKind.u64 11258999068426240000 4294967295 = 0 := by decide
  obtain ⟨u, hO, hu⟩ : ∃ u : Int, bits BinOp.or IntKind.u64 ((hi : Int) * 1125899906842624) ((lo : Int) / 16384) = u ∧ u = (hi : Int) * 1125899906842624 + (lo : Int) / 16384 := by
    refine ⟨_, rfl, ?_⟩
    have e : bits BinOp.or IntKind.u64 ((hi * 1125899906842624 : Nat) : Int) ((lo / 16384 : Nat) : Int) = ((hi * 1125899906842624 ||| lo / 16384 : Nat) : Int) := bits_or_u64_nat _ _ (by omega) (by omega)
    have e2 : hi * 1125899906842624 ||| lo / 16384 = hi * 1125899906842624 + lo / 16384 := by
      have := Nat.two_pow_add_eq_or_of_lt (i := 50) (b := lo / 16384) (by omega) hi
      rw [show (2 ^ 50 : Nat) = 1125899906842624 by rfl, Nat.mul_comm] at this
      exact this.symm
    rw [e2] at e
    exact e
  obtain ⟨t, hT, ht⟩ : ∃ t : Int, IntKind.u64.wrap ((lo : Int) * 1125899906842624) = t ∧ t = (lo : Int) % 16384 * 1125899906842624 := by
    refine ⟨_, rfl, ?_⟩
    rw [IntKind.wrap_u64]; omega
  have hA2 : bits BinOp.and IntKind.u64 t 4294967295 = 0 := by
    have e : bits BinOp.and IntKind.u64 ((lo % 16384 * 1125899906842624 : Nat) : Int) ((4294967295 : Nat) : Int) = ((lo % 16384 * 1125899906842624 &&& 4294967295 : Nat) : Int) := bits_and_u64_nat _ _ (by omega) (by omega)
    have e2 : lo % 16384 * 1125899906842624 &&& 4294967295 = 0 := by
      have := Nat.and_two_pow_sub_one_eq_mod (lo % 16384 * 1125899906842624) 32
      rw [show (2 ^ 32 - 1 : Nat) = 4294967295 by rfl] at this
      rw [this]
      omega
    rw [e2] at e
    rw [ht]
    exact e
  have hu0 : 0 ≤ u := by omega
  have hu1 : u < 11258999068426240000 := by omega
  have ht0 : 0 ≤ t := by omega
  have ht1 : t < 18446744073709551616 := by omega
  have HU := Lib.hid hu
  have HT := Lib.hid ht
  clear hu ht
  go_enter Tryd.func120, Tryd.ntmps120
  go_wp2_with (first | (go_at_call 136; refine (HL.out _).mono ?_; rintro e w' ⟨rfl, rfl⟩))
  have hq0 : 0 ≤ u / 2621440000 := by omega
  have hq1 : u / 2621440000 < 4294967296 := by omega
  have hr0 : 0 ≤ u - u / 2621440000 * 2621440000 := by omega
  have hr1 : u - u / 2621440000 * 2621440000 < 2621440000 := by omega
  generalize hr : u - u / 2621440000 * 2621440000 = r1 at *
  generalize hq : u / 2621440000 = q1 at *
  have HR := Lib.hid hr
  have HQ := Lib.hid hq
  obtain ⟨t1, htt⟩ : ∃ t1, t / 4294967296 = t1 := ⟨_, rfl⟩
  have ht20 : 0 ≤ t1 := by omega
  have ht21 : t1 < 4294967296 := by omega
  rw [htt]
  have HTT := Lib.hid htt
  clear hr hq htt hO hT
  obtain ⟨x, hX, hx⟩ : ∃ x : Int, IntKind.u64.wrap (IntKind.u64.wrap (IntKind.u64.wrap (u * 4294967296) + t1) - IntKind.u64.wrap (q1 * 11258999068426240000)) = x ∧ x = r1 * 4294967296 + t1 := by
    refine ⟨_, rfl, ?_⟩
    have e1 := HR.out
    simp only [IntKind.wrap_u64]
    omega
  have hx0 : 0 ≤ x := by omega
  have hx1 : x < 11258999068426240000 := by omega
  have HX := Lib.hid hx
  clear hx
  refine wp_loop_rounds 1 ?_
  rw [rounds_succ]
  go_wp2
  have hk0 : 0 ≤ x / 2621440000 := by omega
  have hk1 : x / 2621440000 < 4294967296 := by omega
  have hs0 : 0 ≤ x - x / 2621440000 * 2621440000 := by omega
  have hs1 : x - x / 2621440000 * 2621440000 < 2621440000 := by omega
  generalize hs : x - x / 2621440000 * 2621440000 = r0 at *
  generalize hk : x / 2621440000 = q0 at *
  have HS := Lib.hid hs
  have HK := Lib.hid hk
  clear hs hk hX
  refine wp_loop_rounds 1 ?_
  rw [rounds_succ]
  go_wp2
  have f1 := HU.out
  have f2 := HT.out
  have f3 := HTT.out
  have f4 := HR.out
  have f5 := HX.out
  have f6 := HS.out
  have g1 : q1 * 4294967296 + q0 = (((hi * 18446744073709551616 + lo) / 10000 : Nat) : Int) := by omega
  have g2 : (IntKind.u64.wrap (IntKind.u64.wrap (IntKind.u64.wrap (x * 4294967296)) - IntKind.u64.wrap (q0 * 11258999068426240000)) / 1125899906842624) = (((hi * 18446744073709551616 + lo) % 10000 : Nat) : Int) := by
    simp only [IntKind.wrap_u64]
    omega
  go_ret2
  exact ⟨by rw [← g1, ← g2]; rfl, 0, rfl⟩
end Go.Proofs.YtkobkeopajohiaaDoor
