/-
  CONTRACT of math/bits.Div64, at any divisor below 2^63.
  CONTRACTS of deci.quot, deci.Mul and deci.Div, at all numbers.
  CONTRACT of deci.Pow, at all numbers.
-/
import Derived.Test.YtkobkeopajohiaaGreatDoorCC
import Derived.Test.YtkobkeopajohiaaGreatDoorPL
import Derived.Laws.Bits64b
import Derived.LoopTactic
namespace Go.Proofs.YtkobkeopajohiaaGreatDoor
open Go.RowKit Go.Lib

theorem lead_of (D : Nat) (h1 : 1 ≤ D) (h2 : D < 9223372036854775808) : ∃ s : Nat, 1 ≤ s ∧ s ≤ 63 ∧ 9223372036854775808 ≤ D * 2 ^ s ∧ D * 2 ^ s < 18446744073709551616 ∧ ∀ w, Calls Tryz.prog 165 #[.int .u64 D] w fun e w' => e = .returned (.int .i64 s) ∧ w' = w := by
  obtain ⟨a, b, c⟩ := bitLenAux_bounds 64 D (by omega) (by omega)
  have hn : Lib.bitLen D = bitLenAux 64 D := rfl
  rw [← hn] at a b c
  have h64 : Lib.bitLen D ≤ 63 := by
    rcases Nat.lt_or_ge 63 (Lib.bitLen D) with h | h
    · have : 2 ^ 63 ≤ 2 ^ (Lib.bitLen D - 1) := Nat.pow_le_pow_right (by omega) (by omega)
      omega
    · exact h
  refine ⟨64 - Lib.bitLen D, by omega, by omega, ?_, ?_, fun w => ?_⟩
  · have e : (9223372036854775808 : Nat) = 2 ^ (Lib.bitLen D - 1) * 2 ^ (64 - Lib.bitLen D) := by rw [← Nat.pow_add, show Lib.bitLen D - 1 + (64 - Lib.bitLen D) = 63 by omega]
    rw [e]
    exact Nat.mul_le_mul_right _ b
  · have e : (18446744073709551616 : Nat) = 2 ^ Lib.bitLen D * 2 ^ (64 - Lib.bitLen D) := by rw [← Nat.pow_add, show Lib.bitLen D + (64 - Lib.bitLen D) = 64 by omega]
    rw [e]
    exact Nat.mul_lt_mul_of_pos_right c (Nat.pow_pos (by omega))
  · have := Tryz.bits_LeadingZeros64 D w (by omega) (by omega)
    rw [show (64 : Int) - (Lib.bitLen (Int.toNat (D : Int)) : Int) = ((64 - Lib.bitLen D : Nat) : Int) by rw [Int.toNat_natCast]; omega] at this
    exact this
set_option maxHeartbeats 3200000 in
set_option maxRecDepth 100000 in
theorem div64_big (hi lo D : Nat) (w : World) (h0 : 0 < hi) (h1 : hi < D) (hD : D < 9223372036854775808) (hl : lo < 18446744073709551616) :
    Calls Tryz.prog 152 #[.int .u64 hi, .int .u64 lo, .int .u64 D] w fun e w' => e = .returned (.tuple #[.int .u64 (((hi * 18446744073709551616 + lo) / D : Nat) : Int), .int .u64 (((hi * 18446744073709551616 + lo) % D : Nat) : Int)]) ∧ ∃ n, w' = w.drewN n := by
  obtain ⟨s, hs1, hs63, hY1, hY2, hL⟩ := lead_of D (by omega) hD
  have HL := Lib.hid hL
  clear hL
  obtain ⟨Y, hY⟩ : ∃ Y : Nat, D * 2 ^ s = Y := ⟨_, rfl⟩
  have hYw : IntKind.u64.wrap ((D : Int) * 2 ^ s) = (Y : Int) := by
    have e : (D : Int) * 2 ^ s = ((D * 2 ^ s : Nat) : Int) := by rw [Int.natCast_mul, Int.natCast_pow]; rfl
    rw [e, hY, IntKind.wrap_u64]; omega
  obtain ⟨n1, n0, hn1, hn0, hYn⟩ : ∃ n1 n0 : Nat, 2147483648 ≤ n1 ∧ n0 < 4294967296 ∧ Y = n1 * 4294967296 + n0 := ⟨Y / 4294967296, Y % 4294967296, by omega, by omega, by omega⟩
  have hA0 : bits BinOp.and IntKind.u64 (Y : Int) 4294967295 = (n0 : Int) := by
    have e : bits BinOp.and IntKind.u64 ((Y : Nat) : Int) ((4294967295 : Nat) : Int) = ((Y &&& 4294967295 : Nat) : Int) := bits_and_u64_nat _ _ (by omega) (by omega)
    have e2 : Y &&& 4294967295 = n0 := by
      have := Nat.and_two_pow_sub_one_eq_mod Y 32
      rw [show (2 ^ 32 - 1 : Nat) = 4294967295 by rfl] at this
      rw [this]
      omega
    rw [e2] at e
    exact e
  have hA1 : (Y : Int) / 4294967296 = (n1 : Int) := by omega
  have hh0 : ((hi : Int) == 0) = false := by rw [beq_eq_false_iff_ne]; omega
  have hd0 : ((D : Int) == 0) = false := by rw [beq_eq_false_iff_ne]; omega
  have hdh : ¬ (D : Int) ≤ hi := by omega
  have hn1' : ¬ (n1 : Int) = 0 := by omega
  obtain ⟨k1, k2, k3, k4⟩ := Tab.kn_shift hi lo D s hs63 hs1 h1 hY2 hl
  rw [hY] at k3
  obtain ⟨u, hu⟩ : ∃ u : Nat, hi * 2 ^ s + lo / 2 ^ (64 - s) = u := ⟨_, rfl⟩
  obtain ⟨v, hv⟩ : ∃ v : Nat, lo * 2 ^ s % 18446744073709551616 = v := ⟨_, rfl⟩
  rw [hu] at k2 k3 k4
  rw [hv] at k4
  have hv64 : v < 18446744073709551616 := by rw [← hv]; exact Nat.mod_lt _ (by omega)
  have hO : bits BinOp.or IntKind.u64 (IntKind.u64.wrap ((hi : Int) * 2 ^ s)) ((lo : Int) / 2 ^ (64 - s)) = (u : Int) := by
    have e : (hi : Int) * 2 ^ s = ((hi * 2 ^ s : Nat) : Int) := by rw [Int.natCast_mul, Int.natCast_pow]; rfl
    have e2 : (lo : Int) / 2 ^ (64 - s) = ((lo / 2 ^ (64 - s) : Nat) : Int) := by rw [Int.natCast_ediv, Int.natCast_pow]; rfl
    have e3 : IntKind.u64.wrap ((hi * 2 ^ s : Nat) : Int) = ((hi * 2 ^ s : Nat) : Int) := by rw [IntKind.wrap_u64]; omega
    rw [e, e2, e3, bits_or_u64_nat _ _ k1 (Nat.lt_of_le_of_lt (Nat.div_le_self _ _) hl), k2]
  have hV : IntKind.u64.wrap ((lo : Int) * 2 ^ s) = (v : Int) := by
    have e : (lo : Int) * 2 ^ s = ((lo * 2 ^ s : Nat) : Int) := by rw [Int.natCast_mul, Int.natCast_pow]; rfl
    rw [e, IntKind.wrap_u64, ← hv]; omega
  obtain ⟨v1, v0, hv1, hv0, hvn⟩ : ∃ v1 v0 : Nat, v1 < 4294967296 ∧ v0 < 4294967296 ∧ v = v1 * 4294967296 + v0 := ⟨v / 4294967296, v % 4294967296, by omega, by omega, by omega⟩
  have hV0 : bits BinOp.and IntKind.u64 (v : Int) 4294967295 = (v0 : Int) := by
    have e : bits BinOp.and IntKind.u64 ((v : Nat) : Int) ((4294967295 : Nat) : Int) = ((v &&& 4294967295 : Nat) : Int) := bits_and_u64_nat _ _ (by omega) (by omega)
    have e2 : v &&& 4294967295 = v0 := by
      have := Nat.and_two_pow_sub_one_eq_mod v 32
      rw [show (2 ^ 32 - 1 : Nat) = 4294967295 by rfl] at this
      rw [this]
      omega
    rw [e2] at e
    exact e
  have hV1 : (v : Int) / 4294967296 = (v1 : Int) := by omega
  have hY64 : Y < 18446744073709551616 := by omega
  have hu64 : u < 18446744073709551616 := by omega
  have kn := Tab.kn_init u v1 Y n1 n0 hYn hn0 hn1 k3 hv1
  obtain ⟨-, kg, kr, kgr, kq⟩ := Tab.kn_start u v1 Y n1 n0 hYn hn0 hn1 k3 hv1
  have hG : (u : Int) / (n1 : Int) = ((u / n1 : Nat) : Int) := (Int.natCast_ediv u n1).symm
  have hR : IntKind.u64.wrap ((u : Int) - IntKind.u64.wrap (((u / n1 : Nat) : Int) * (n1 : Int))) = ((u % n1 : Nat) : Int) := by
    have e : ((u / n1 : Nat) : Int) * (n1 : Int) = ((u / n1 * n1 : Nat) : Int) := by rw [Int.natCast_mul]
    rw [e]
    generalize u / n1 * n1 = p at *
    simp only [IntKind.wrap_u64]
    omega
  obtain ⟨r1, hr1⟩ : ∃ r1, (u * 4294967296 + v1) % Y = r1 := ⟨_, rfl⟩
  have hr1Y : r1 < Y := by rw [← hr1]; exact Nat.mod_lt _ (by omega)
  have hdm1 := Nat.div_add_mod (u * 4294967296 + v1) Y
  rw [hr1, Nat.mul_comm] at hdm1
  obtain ⟨q1, hq1⟩ : ∃ q, (u * 4294967296 + v1) / Y = q := ⟨_, rfl⟩
  rw [hq1] at kn hdm1 kq
  have hX : IntKind.u64.wrap (IntKind.u64.wrap (IntKind.u64.wrap ((u : Int) * 4294967296) + (v1 : Int)) - IntKind.u64.wrap ((q1 : Int) * (Y : Int))) = (r1 : Int) := by
    have e : (q1 : Int) * (Y : Int) = ((q1 * Y : Nat) : Int) := by rw [Int.natCast_mul]
    rw [e]
    generalize q1 * Y = p at *
    simp only [IntKind.wrap_u64]
    omega
  have kn2 := Tab.kn_init r1 v0 Y n1 n0 hYn hn0 hn1 hr1Y hv0
  obtain ⟨-, kg2, kr2, kgr2, kq2⟩ := Tab.kn_start r1 v0 Y n1 n0 hYn hn0 hn1 hr1Y hv0
  have hG2 : (r1 : Int) / (n1 : Int) = ((r1 / n1 : Nat) : Int) := (Int.natCast_ediv r1 n1).symm
  have hR2 : IntKind.u64.wrap ((r1 : Int) - IntKind.u64.wrap (((r1 / n1 : Nat) : Int) * (n1 : Int))) = ((r1 % n1 : Nat) : Int) := by
    have e : ((r1 / n1 : Nat) : Int) * (n1 : Int) = ((r1 / n1 * n1 : Nat) : Int) := by rw [Int.natCast_mul]
    rw [e]
    generalize r1 / n1 * n1 = p at *
    simp only [IntKind.wrap_u64]
    omega
  obtain ⟨r0, hr0⟩ : ∃ r0, (r1 * 4294967296 + v0) % Y = r0 := ⟨_, rfl⟩
  have hr0Y : r0 < Y := by rw [← hr0]; exact Nat.mod_lt _ (by omega)
  have hdm2 := Nat.div_add_mod (r1 * 4294967296 + v0) Y
  rw [hr0, Nat.mul_comm] at hdm2
  obtain ⟨q0, hq0⟩ : ∃ q, (r1 * 4294967296 + v0) / Y = q := ⟨_, rfl⟩
  rw [hq0] at kn2 hdm2 kq2
  have hX2 : IntKind.u64.wrap (IntKind.u64.wrap (IntKind.u64.wrap ((r1 : Int) * 4294967296) + (v0 : Int)) - IntKind.u64.wrap ((q0 : Int) * (Y : Int))) = (r0 : Int) := by
    have e : (q0 : Int) * (Y : Int) = ((q0 * Y : Nat) : Int) := by rw [Int.natCast_mul]
    rw [e]
    generalize q0 * Y = p at *
    simp only [IntKind.wrap_u64]
    omega
  have hfin := Tab.kn_join 4294967296 (hi * 18446744073709551616 + lo) D (2 ^ s) Y u v1 v0 q1 r1 q0 r0 (Nat.pow_pos (by omega)) hY.symm (by rw [k4, hvn]; omega) hdm1.symm hdm2.symm hr0Y
  obtain ⟨QQ, hQQ⟩ : ∃ q, (hi * 18446744073709551616 + lo) / D = q := ⟨_, rfl⟩
  obtain ⟨RR, hRR⟩ : ∃ q, (hi * 18446744073709551616 + lo) % D = q := ⟨_, rfl⟩
  rw [hQQ, hRR]
  rw [hQQ, hRR] at hfin
  clear hQQ hRR
  have hSh : (r0 : Int) / 2 ^ s = (RR : Int) := by
    have e2 : (r0 : Int) / 2 ^ s = ((r0 / 2 ^ s : Nat) : Int) := by rw [Int.natCast_ediv, Int.natCast_pow]; rfl
    rw [e2, ← hfin.2, Nat.mul_div_cancel _ (Nat.pow_pos (by omega))]
  obtain ⟨g, hg⟩ : ∃ g, u / n1 = g := ⟨_, rfl⟩
  obtain ⟨g2, hg2⟩ : ∃ g, r1 / n1 = g := ⟨_, rfl⟩
  obtain ⟨e1, he1⟩ : ∃ g, u % n1 = g := ⟨_, rfl⟩
  obtain ⟨e2, he2⟩ : ∃ g, r1 % n1 = g := ⟨_, rfl⟩
  rw [hg, he1] at kn hR
  rw [hg] at hG kg
  rw [he1] at kr
  rw [hg2, he2] at kn2 hR2
  rw [hg2] at hG2 kg2
  rw [he2] at kr2
  have KN := Lib.hid kn
  have KN2 := Lib.hid kn2
  have HF := Lib.hid hfin.1
  have HYn := Lib.hid hYn
  have hY0 : 0 < Y := by omega
  have hn1b : n1 < 4294967296 := by omega
  clear kn kn2 hfin hYn hdm1 hdm2 hvn k4 k2 hr0 hr1 hq0 hq1 hg hg2 he1 he2 kgr kgr2 hu hv hY1 hY2 hY k1
  have hh0 : ((hi : Int) == 0) = false := by rw [beq_eq_false_iff_ne]; omega
  have hd0 : ((D : Int) == 0) = false := by rw [beq_eq_false_iff_ne]; omega
  have hdh : ¬ (D : Int) ≤ hi := by omega
  have hn1' : ¬ (n1 : Int) = 0 := by omega
  go_enter Tryz.func152, Tryz.ntmps152
  go_wp2_with (first | (go_at_call 165; refine (HL.out _).mono ?_; rintro e w' ⟨rfl, rfl⟩))
  go_loop [15, 16] (fun a b => ∃ h r : Nat, a = .int .u64 h ∧ b = .int .u64 r ∧ r < 4294967296 ∧ Hid (Tab.Kn u v1 Y n1 q1 h r)) (fun a _ => (RowKit.intOf a).toNat)
  case atStart => exact ⟨_, _, rfl, rfl, by omega, KN.out⟩
  case round =>
    obtain ⟨h, r, rfl, rfl, hr32, hk⟩ := hrel
    have hB1 : h ≤ 4294967297 := hk.out.2.2.1
    by_cases ht : 4294967296 ≤ h ∨ 4294967296 * r + v1 < h * n0
    · obtain ⟨hlt, hk'⟩ := Tab.kn_less u v1 Y n1 n0 q1 h r HYn.out hY0 hk.out ht
      have HK' := Lib.hid hk'
      have h1le : 1 ≤ h := by omega
      clear hk'
      by_cases hB : 4294967296 ≤ h
      · have hBi : (4294967296 : Int) ≤ h := by omega
        clear ht
        by_cases hbr : 4294967296 ≤ r + n1
        · have hq := Tab.kn_end u v1 Y n1 n0 q1 (h - 1) (r + n1) HYn.out hY0 hn0 HK'.out (by omega) hbr
          have hq' : (h : Int) - 1 = (q1 : Int) := by omega
          have hbri : (4294967296 : Int) ≤ (r : Int) + n1 := by omega
          clear hq hlt HK' hk
          go_wp2
          go_loop [18, 16] (fun a b => ∃ h2 ra : Nat, a = .int .u64 h2 ∧ b = .int .u64 ra ∧ ra < 4294967296 ∧ Hid (Tab.Kn r1 v0 Y n1 q0 h2 ra)) (fun a _ => (RowKit.intOf a).toNat)
          case atStart => exact ⟨_, _, rfl, rfl, by omega, KN2.out⟩
          case round =>
            obtain ⟨h2, ra, rfl, rfl, hr32s, hks⟩ := hrel
            have hB1s : h2 ≤ 4294967297 := hks.out.2.2.1
            by_cases hts : 4294967296 ≤ h2 ∨ 4294967296 * ra + v0 < h2 * n0
            · obtain ⟨hlts, hkbs⟩ := Tab.kn_less r1 v0 Y n1 n0 q0 h2 ra HYn.out hY0 hks.out hts
              have HKbs := Lib.hid hkbs
              have h1les : 1 ≤ h2 := by omega
              clear hkbs
              by_cases hBs : 4294967296 ≤ h2
              · have hBis : (4294967296 : Int) ≤ h2 := by omega
                clear hts
                by_cases hbrs : 4294967296 ≤ ra + n1
                · have hqs := Tab.kn_end r1 v0 Y n1 n0 q0 (h2 - 1) (ra + n1) HYn.out hY0 hn0 HKbs.out (by omega) hbrs
                  have hqbs : (h2 : Int) - 1 = (q0 : Int) := by omega
                  have hbris : (4294967296 : Int) ≤ (ra : Int) + n1 := by omega
                  clear hqs hlts HKbs hks
                  go_wp2
                  have hf1 : (q1 : Int) * 4294967296 + (q0 : Int) = (QQ : Int) := by have := HF.out; omega
                  go_ret2
                  exact ⟨by rw [← hf1, ← hSh]; rfl, 0, rfl⟩
                · have hbris : ¬ (4294967296 : Int) ≤ (ra : Int) + n1 := by omega
                  go_wp2
                  go_round
                  case rel => exact ⟨h2 - 1, ra + n1, by go_num, by go_num, by omega, HKbs.out⟩
                  case measure => simp [RowKit.intOf]; omega
              · have hBis : ¬ (4294967296 : Int) ≤ h2 := by omega
                have hlt2s : 4294967296 * ra + v0 < h2 * n0 := by rcases hts with hts | hts; exact absurd hts hBs; exact hts
                have hm64s : h2 * n0 < 18446744073709551616 := Nat.lt_of_le_of_lt (Nat.mul_le_mul (show h2 ≤ 4294967296 by omega) (show n0 ≤ 4294967295 by omega)) (by decide)
                have hms : IntKind.u64.wrap ((h2 : Int) * (n0 : Int)) = ((h2 * n0 : Nat) : Int) := by rw [← Int.natCast_mul, IntKind.wrap_u64]; omega
                obtain ⟨m2, hmms⟩ : ∃ m2, h2 * n0 = m2 := ⟨_, rfl⟩
                rw [hmms] at hms hlt2s hm64s
                have htis : 4294967296 * (ra : Int) + (v0 : Int) < (m2 : Int) := by omega
                clear hts hlt2s hmms hBs
                by_cases hbrs : 4294967296 ≤ ra + n1
                · have hqs := Tab.kn_end r1 v0 Y n1 n0 q0 (h2 - 1) (ra + n1) HYn.out hY0 hn0 HKbs.out (by omega) hbrs
                  have hqbs : (h2 : Int) - 1 = (q0 : Int) := by omega
                  have hbris : (4294967296 : Int) ≤ (ra : Int) + n1 := by omega
                  clear hqs hlts HKbs hks
                  go_wp2
                  have hf1 : (q1 : Int) * 4294967296 + (q0 : Int) = (QQ : Int) := by have := HF.out; omega
                  go_ret2
                  exact ⟨by rw [← hf1, ← hSh]; rfl, 0, rfl⟩
                · have hbris : ¬ (4294967296 : Int) ≤ (ra : Int) + n1 := by omega
                  go_wp2
                  go_round
                  case rel => exact ⟨h2 - 1, ra + n1, by go_num, by go_num, by omega, HKbs.out⟩
                  case measure => simp [RowKit.intOf]; omega
            · simp only [not_or] at hts
              obtain ⟨ht1s, ht2s⟩ := hts
              obtain rfl := Tab.kn_done r1 v0 Y n1 n0 q0 h2 ra HYn.out hY0 hks.out ht2s
              have hBis : ¬ (4294967296 : Int) ≤ h2 := by omega
              have hm64s : h2 * n0 < 18446744073709551616 := Nat.lt_of_le_of_lt (Nat.mul_le_mul (show h2 ≤ 4294967296 by omega) (show n0 ≤ 4294967295 by omega)) (by decide)
              have hms : IntKind.u64.wrap ((h2 : Int) * (n0 : Int)) = ((h2 * n0 : Nat) : Int) := by rw [← Int.natCast_mul, IntKind.wrap_u64]; omega
              obtain ⟨m2, hmms⟩ : ∃ m2, h2 * n0 = m2 := ⟨_, rfl⟩
              rw [hmms] at hms ht2s hm64s
              have htis : ¬ 4294967296 * (ra : Int) + (v0 : Int) < (m2 : Int) := by omega
              clear hmms ht1s ht2s hks hB1s hm64s
              go_wp2
              have hf1 : (q1 : Int) * 4294967296 + (h2 : Int) = (QQ : Int) := by have := HF.out; omega
              go_ret2
              exact ⟨by rw [← hf1, ← hSh]; rfl, 0, rfl⟩
        · have hbri : ¬ (4294967296 : Int) ≤ (r : Int) + n1 := by omega
          go_wp2
          go_round
          case rel => exact ⟨h - 1, r + n1, by go_num, by go_num, by omega, HK'.out⟩
          case measure => simp [RowKit.intOf]; omega
      · have hBi : ¬ (4294967296 : Int) ≤ h := by omega
        have hlt2 : 4294967296 * r + v1 < h * n0 := by rcases ht with ht | ht; exact absurd ht hB; exact ht
        have hm64 : h * n0 < 18446744073709551616 := Nat.lt_of_le_of_lt (Nat.mul_le_mul (show h ≤ 4294967296 by omega) (show n0 ≤ 4294967295 by omega)) (by decide)
        have hm : IntKind.u64.wrap ((h : Int) * (n0 : Int)) = ((h * n0 : Nat) : Int) := by rw [← Int.natCast_mul, IntKind.wrap_u64]; omega
        obtain ⟨m, hmm⟩ : ∃ m, h * n0 = m := ⟨_, rfl⟩
        rw [hmm] at hm hlt2 hm64
        have hti : 4294967296 * (r : Int) + (v1 : Int) < (m : Int) := by omega
        clear ht hlt2 hmm hB
        by_cases hbr : 4294967296 ≤ r + n1
        · have hq := Tab.kn_end u v1 Y n1 n0 q1 (h - 1) (r + n1) HYn.out hY0 hn0 HK'.out (by omega) hbr
          have hq' : (h : Int) - 1 = (q1 : Int) := by omega
          have hbri : (4294967296 : Int) ≤ (r : Int) + n1 := by omega
          clear hq hlt HK' hk
          go_wp2
          go_loop [18, 16] (fun a b => ∃ h2 ra : Nat, a = .int .u64 h2 ∧ b = .int .u64 ra ∧ ra < 4294967296 ∧ Hid (Tab.Kn r1 v0 Y n1 q0 h2 ra)) (fun a _ => (RowKit.intOf a).toNat)
          case atStart => exact ⟨_, _, rfl, rfl, by omega, KN2.out⟩
          case round =>
            obtain ⟨h2, ra, rfl, rfl, hr32s, hks⟩ := hrel
            have hB1s : h2 ≤ 4294967297 := hks.out.2.2.1
            by_cases hts : 4294967296 ≤ h2 ∨ 4294967296 * ra + v0 < h2 * n0
            · obtain ⟨hlts, hkbs⟩ := Tab.kn_less r1 v0 Y n1 n0 q0 h2 ra HYn.out hY0 hks.out hts
              have HKbs := Lib.hid hkbs
              have h1les : 1 ≤ h2 := by omega
              clear hkbs
              by_cases hBs : 4294967296 ≤ h2
              · have hBis : (4294967296 : Int) ≤ h2 := by omega
                clear hts
                by_cases hbrs : 4294967296 ≤ ra + n1
                · have hqs := Tab.kn_end r1 v0 Y n1 n0 q0 (h2 - 1) (ra + n1) HYn.out hY0 hn0 HKbs.out (by omega) hbrs
                  have hqbs : (h2 : Int) - 1 = (q0 : Int) := by omega
                  have hbris : (4294967296 : Int) ≤ (ra : Int) + n1 := by omega
                  clear hqs hlts HKbs hks
                  go_wp2
                  have hf1 : (q1 : Int) * 4294967296 + (q0 : Int) = (QQ : Int) := by have := HF.out; omega
                  go_ret2
                  exact ⟨by rw [← hf1, ← hSh]; rfl, 0, rfl⟩
                · have hbris : ¬ (4294967296 : Int) ≤ (ra : Int) + n1 := by omega
                  go_wp2
                  go_round
                  case rel => exact ⟨h2 - 1, ra + n1, by go_num, by go_num, by omega, HKbs.out⟩
                  case measure => simp [RowKit.intOf]; omega
              · have hBis : ¬ (4294967296 : Int) ≤ h2 := by omega
                have hlt2s : 4294967296 * ra + v0 < h2 * n0 := by rcases hts with hts | hts; exact absurd hts hBs; exact hts
                have hm64s : h2 * n0 < 18446744073709551616 := Nat.lt_of_le_of_lt (Nat.mul_le_mul (show h2 ≤ 4294967296 by omega) (show n0 ≤ 4294967295 by omega)) (by decide)
                have hms : IntKind.u64.wrap ((h2 : Int) * (n0 : Int)) = ((h2 * n0 : Nat) : Int) := by rw [← Int.natCast_mul, IntKind.wrap_u64]; omega
                obtain ⟨m2, hmms⟩ : ∃ m2, h2 * n0 = m2 := ⟨_, rfl⟩
                rw [hmms] at hms hlt2s hm64s
                have htis : 4294967296 * (ra : Int) + (v0 : Int) < (m2 : Int) := by omega
                clear hts hlt2s hmms hBs
                by_cases hbrs : 4294967296 ≤ ra + n1
                · have hqs := Tab.kn_end r1 v0 Y n1 n0 q0 (h2 - 1) (ra + n1) HYn.out hY0 hn0 HKbs.out (by omega) hbrs
                  have hqbs : (h2 : Int) - 1 = (q0 : Int) := by omega
                  have hbris : (4294967296 : Int) ≤ (ra : Int) + n1 := by omega
                  clear hqs hlts HKbs hks
                  go_wp2
                  have hf1 : (q1 : Int) * 4294967296 + (q0 : Int) = (QQ : Int) := by have := HF.out; omega
                  go_ret2
                  exact ⟨by rw [← hf1, ← hSh]; rfl, 0, rfl⟩
                · have hbris : ¬ (4294967296 : Int) ≤ (ra : Int) + n1 := by omega
                  go_wp2
                  go_round
                  case rel => exact ⟨h2 - 1, ra + n1, by go_num, by go_num, by omega, HKbs.out⟩
                  case measure => simp [RowKit.intOf]; omega
            · simp only [not_or] at hts
              obtain ⟨ht1s, ht2s⟩ := hts
              obtain rfl := Tab.kn_done r1 v0 Y n1 n0 q0 h2 ra HYn.out hY0 hks.out ht2s
              have hBis : ¬ (4294967296 : Int) ≤ h2 := by omega
              have hm64s : h2 * n0 < 18446744073709551616 := Nat.lt_of_le_of_lt (Nat.mul_le_mul (show h2 ≤ 4294967296 by omega) (show n0 ≤ 4294967295 by omega)) (by decide)
              have hms : IntKind.u64.wrap ((h2 : Int) * (n0 : Int)) = ((h2 * n0 : Nat) : Int) := by rw [← Int.natCast_mul, IntKind.wrap_u64]; omega
              obtain ⟨m2, hmms⟩ : ∃ m2, h2 * n0 = m2 := ⟨_, rfl⟩
              rw [hmms] at hms ht2s hm64s
              have htis : ¬ 4294967296 * (ra : Int) + (v0 : Int) < (m2 : Int) := by omega
              clear hmms ht1s ht2s hks hB1s hm64s
              go_wp2
              have hf1 : (q1 : Int) * 4294967296 + (h2 : Int) = (QQ : Int) := by have := HF.out; omega
              go_ret2
              exact ⟨by rw [← hf1, ← hSh]; rfl, 0, rfl⟩
        · have hbri : ¬ (4294967296 : Int) ≤ (r : Int) + n1 := by omega
          go_wp2
          go_round
          case rel => exact ⟨h - 1, r + n1, by go_num, by go_num, by omega, HK'.out⟩
          case measure => simp [RowKit.intOf]; omega
    · simp only [not_or] at ht
      obtain ⟨ht1, ht2⟩ := ht
      obtain rfl := Tab.kn_done u v1 Y n1 n0 q1 h r HYn.out hY0 hk.out ht2
      have hBi : ¬ (4294967296 : Int) ≤ h := by omega
      have hm64 : h * n0 < 18446744073709551616 := Nat.lt_of_le_of_lt (Nat.mul_le_mul (show h ≤ 4294967296 by omega) (show n0 ≤ 4294967295 by omega)) (by decide)
      have hm : IntKind.u64.wrap ((h : Int) * (n0 : Int)) = ((h * n0 : Nat) : Int) := by rw [← Int.natCast_mul, IntKind.wrap_u64]; omega
      obtain ⟨m, hmm⟩ : ∃ m, h * n0 = m := ⟨_, rfl⟩
      rw [hmm] at hm ht2 hm64
      have hti : ¬ 4294967296 * (r : Int) + (v1 : Int) < (m : Int) := by omega
      clear hmm ht1 ht2 hk hB1 hm64
      go_wp2
      go_loop [18, 16] (fun a b => ∃ h2 ra : Nat, a = .int .u64 h2 ∧ b = .int .u64 ra ∧ ra < 4294967296 ∧ Hid (Tab.Kn r1 v0 Y n1 q0 h2 ra)) (fun a _ => (RowKit.intOf a).toNat)
      case atStart => exact ⟨_, _, rfl, rfl, by omega, KN2.out⟩
      case round =>
        obtain ⟨h2, ra, rfl, rfl, hr32s, hks⟩ := hrel
        have hB1s : h2 ≤ 4294967297 := hks.out.2.2.1
        by_cases hts : 4294967296 ≤ h2 ∨ 4294967296 * ra + v0 < h2 * n0
        · obtain ⟨hlts, hkbs⟩ := Tab.kn_less r1 v0 Y n1 n0 q0 h2 ra HYn.out hY0 hks.out hts
          have HKbs := Lib.hid hkbs
          have h1les : 1 ≤ h2 := by omega
          clear hkbs
          by_cases hBs : 4294967296 ≤ h2
          · have hBis : (4294967296 : Int) ≤ h2 := by omega
            clear hts
            by_cases hbrs : 4294967296 ≤ ra + n1
            · have hqs := Tab.kn_end r1 v0 Y n1 n0 q0 (h2 - 1) (ra + n1) HYn.out hY0 hn0 HKbs.out (by omega) hbrs
              have hqbs : (h2 : Int) - 1 = (q0 : Int) := by omega
              have hbris : (4294967296 : Int) ≤ (ra : Int) + n1 := by omega
              clear hqs hlts HKbs hks
              go_wp2
              have hf1 : (h : Int) * 4294967296 + (q0 : Int) = (QQ : Int) := by have := HF.out; omega
              go_ret2
              exact ⟨by rw [← hf1, ← hSh]; rfl, 0, rfl⟩
            · have hbris : ¬ (4294967296 : Int) ≤ (ra : Int) + n1 := by omega
              go_wp2
              go_round
              case rel => exact ⟨h2 - 1, ra + n1, by go_num, by go_num, by omega, HKbs.out⟩
              case measure => simp [RowKit.intOf]; omega
          · have hBis : ¬ (4294967296 : Int) ≤ h2 := by omega
            have hlt2s : 4294967296 * ra + v0 < h2 * n0 := by rcases hts with hts | hts; exact absurd hts hBs; exact hts
            have hm64s : h2 * n0 < 18446744073709551616 := Nat.lt_of_le_of_lt (Nat.mul_le_mul (show h2 ≤ 4294967296 by omega) (show n0 ≤ 4294967295 by omega)) (by decide)
            have hms : IntKind.u64.wrap ((h2 : Int) * (n0 : Int)) = ((h2 * n0 : Nat) : Int) := by rw [← Int.natCast_mul, IntKind.wrap_u64]; omega
            obtain ⟨m2, hmms⟩ : ∃ m2, h2 * n0 = m2 := ⟨_, rfl⟩
            rw [hmms] at hms hlt2s hm64s
            have htis : 4294967296 * (ra : Int) + (v0 : Int) < (m2 : Int) := by omega
            clear hts hlt2s hmms hBs
            by_cases hbrs : 4294967296 ≤ ra + n1
            · have hqs := Tab.kn_end r1 v0 Y n1 n0 q0 (h2 - 1) (ra + n1) HYn.out hY0 hn0 HKbs.out (by omega) hbrs
              have hqbs : (h2 : Int) - 1 = (q0 : Int) := by omega
              have hbris : (4294967296 : Int) ≤ (ra : Int) + n1 := by omega
              clear hqs hlts HKbs hks
              go_wp2
              have hf1 : (h : Int) * 4294967296 + (q0 : Int) = (QQ : Int) := by have := HF.out; omega
              go_ret2
              exact ⟨by rw [← hf1, ← hSh]; rfl, 0, rfl⟩
            · have hbris : ¬ (4294967296 : Int) ≤ (ra : Int) + n1 := by omega
              go_wp2
              go_round
              case rel => exact ⟨h2 - 1, ra + n1, by go_num, by go_num, by omega, HKbs.out⟩
              case measure => simp [RowKit.intOf]; omega
        · simp only [not_or] at hts
          obtain ⟨ht1s, ht2s⟩ := hts
          obtain rfl := Tab.kn_done r1 v0 Y n1 n0 q0 h2 ra HYn.out hY0 hks.out ht2s
          have hBis : ¬ (4294967296 : Int) ≤ h2 := by omega
          have hm64s : h2 * n0 < 18446744073709551616 := Nat.lt_of_le_of_lt (Nat.mul_le_mul (show h2 ≤ 4294967296 by omega) (show n0 ≤ 4294967295 by omega)) (by decide)
          have hms : IntKind.u64.wrap ((h2 : Int) * (n0 : Int)) = ((h2 * n0 : Nat) : Int) := by rw [← Int.natCast_mul, IntKind.wrap_u64]; omega
          obtain ⟨m2, hmms⟩ : ∃ m2, h2 * n0 = m2 := ⟨_, rfl⟩
          rw [hmms] at hms ht2s hm64s
          have htis : ¬ 4294967296 * (ra : Int) + (v0 : Int) < (m2 : Int) := by omega
          clear hmms ht1s ht2s hks hB1s hm64s
          go_wp2
          have hf1 : (h : Int) * 4294967296 + (h2 : Int) = (QQ : Int) := by have := HF.out; omega
          go_ret2
          exact ⟨by rw [← hf1, ← hSh]; rfl, 0, rfl⟩
end Go.Proofs.YtkobkeopajohiaaGreatDoor
namespace Go.Proofs.YtkobkeopajohiaaGreatDoor
open Go.RowKit Go.Lib

theorem div64_any (hi lo D : Nat) (w : World) (h1 : hi < D) (hD : D < 9223372036854775808) (hl : lo < 18446744073709551616) :
    Calls Tryz.prog 152 #[.int .u64 hi, .int .u64 lo, .int .u64 D] w fun e w' => e = .returned (.tuple #[.int .u64 (((hi * 18446744073709551616 + lo) / D : Nat) : Int), .int .u64 (((hi * 18446744073709551616 + lo) % D : Nat) : Int)]) ∧ ∃ n, w' = w.drewN n := by
  by_cases h0 : 0 < hi
  · exact div64_big hi lo D w h0 h1 hD hl
  · obtain rfl : hi = 0 := by omega
    have := div64_zero lo D w (by omega) (by omega) (by omega) (by omega)
    rw [show (0 : Nat) * 18446744073709551616 + lo = lo by omega]
    exact this
set_option maxHeartbeats 3200000 in
set_option maxRecDepth 100000 in
theorem quot_any (hi lo D q : Nat) (ok : Bool) (w : World) (_h1 : hi < 18446744073709551616) (hl : lo < 18446744073709551616) (hD0 : 0 < D) (hD : D < 9223372036854775808) (h : Tab.quotR (hi * 18446744073709551616 + lo) D = (q, ok)) :
    Calls Tryz.prog 142 #[.int .u64 hi, .int .u64 lo, .int .u64 D] w fun e w' => e = .returned (.tuple #[.int .u64 q, .bool ok]) ∧ ∃ n, w' = w.drewN n := by
  by_cases hh : hi < D
  · have HD := Lib.hid fun w => div64_any hi lo D w hh hD hl
    unfold Tab.quotR at h
    have hq1 : (hi * 18446744073709551616 + lo) / D < 18446744073709551616 := by
      rw [Nat.div_lt_iff_lt_mul hD0]; omega
    have hr1 : (hi * 18446744073709551616 + lo) % D < D := Nat.mod_lt _ hD0
    have hhi : (hi : Int) < D := by omega
    have hlo : ¬ (D : Int) ≤ hi := by omega
    clear hl
    obtain ⟨d, hd0⟩ : ∃ d, (hi * 18446744073709551616 + lo) / D = d := ⟨_, rfl⟩
    obtain ⟨r, hr0⟩ : ∃ d, (hi * 18446744073709551616 + lo) % D = d := ⟨_, rfl⟩
    rw [hd0, hr0] at h HD
    rw [hd0] at hq1
    rw [hr0] at hr1
    clear hd0 hr0
    by_cases hd : 999999999999999999 < d
    · rw [if_pos hd] at h
      obtain ⟨rfl, rfl⟩ := Prod.mk.inj h
      clear h
      go_enter Tryz.func142, Tryz.ntmps142
      go_wp2_with (first
        | (go_at_call 152; refine (HD.out _).mono ?_; rintro e w' ⟨rfl, n, rfl⟩))
      go_ret2
      exact ⟨rfl, _, rfl⟩
    · rw [if_neg hd] at h
      by_cases hr : D - r ≤ r
      · rw [if_pos hr] at h
        obtain ⟨hk0, hk⟩ := Prod.mk.inj h
        have HK := Lib.hid hk
        have HK0 := Lib.hid hk0
        clear h hk hk0
        have hr' : (D : Int) - r ≤ r := by omega
        go_enter Tryz.func142, Tryz.ntmps142
        go_wp2_with (first
          | (go_at_call 152; refine (HD.out _).mono ?_; rintro e w' ⟨rfl, n, rfl⟩))
        all_goals go_ret2
        all_goals exact ⟨ret_ib (by have := HK0.out; omega) (by rw [← HK.out]; first | (apply decide_eq_decide.2; omega) | exact (decide_eq_true (by omega)).symm | exact (decide_eq_false (by omega)).symm), _, rfl⟩
      · rw [if_neg hr] at h
        obtain ⟨rfl, rfl⟩ := Prod.mk.inj h
        have hr' : ¬ (D : Int) - r ≤ r := by omega
        clear h hr
        go_enter Tryz.func142, Tryz.ntmps142
        go_wp2_with (first
          | (go_at_call 152; refine (HD.out _).mono ?_; rintro e w' ⟨rfl, n, rfl⟩))
        all_goals go_ret2
        all_goals exact ⟨ret_ib rfl (by first | rfl | exact decide_eq_true (by omega)), _, rfl⟩
  · have hq : 999999999999999999 < (hi * 18446744073709551616 + lo) / D := by
      have : 18446744073709551616 ≤ (hi * 18446744073709551616 + lo) / D := by
        rw [Nat.le_div_iff_mul_le hD0]; omega
      omega
    unfold Tab.quotR at h
    rw [if_pos hq] at h
    obtain ⟨rfl, rfl⟩ := Prod.mk.inj h
    have hlo : (D : Int) ≤ hi := by omega
    clear h hq
    go_enter Tryz.func142, Tryz.ntmps142
    go_wp2
    go_ret2
    exact ⟨rfl, 0, rfl⟩

set_option maxHeartbeats 3200000 in
set_option maxRecDepth 100000 in
theorem mul_any (a b n : Int) (ok : Bool) (w : World) (ha : -999999999999999999 ≤ a ∧ a ≤ 999999999999999999) (hb : -999999999999999999 ≤ b ∧ b ≤ 999999999999999999) (h : Tab.mulS a b = (n, ok)) :
    Calls Tryz.prog 95 #[.int .i64 a, .int .i64 b] w fun e w' => e = .returned (.tuple #[.int .i64 n, .bool ok]) ∧ ∃ n, w' = w.drewN n := by
  obtain ⟨x, hx⟩ : ∃ x, a.natAbs = x := ⟨_, rfl⟩
  obtain ⟨y, hy⟩ : ∃ y, b.natAbs = y := ⟨_, rfl⟩
  have HA := Lib.hid fun w => size_any a w (by omega) (by omega)
  have HB := Lib.hid fun w => size_any b w (by omega) (by omega)
  unfold Tab.mulS at h
  rw [← Tab.quotR_made _ _ _ (by omega)] at h
  rw [hx] at HA h
  rw [hy] at HB h
  have hP : x * y ≤ 1000000000000000000 * 1000000000000000000 := Nat.mul_le_mul (by omega) (by omega)
  obtain ⟨hi, lo, hi1, lo1, hP2⟩ : ∃ hi lo : Nat, hi < 18446744073709551616 ∧ lo < 18446744073709551616 ∧ x * y = hi * 18446744073709551616 + lo := ⟨x * y / 18446744073709551616, x * y % 18446744073709551616, by omega, by omega, by omega⟩
  have HM := Lib.hid fun w => mul_is x y hi lo w (by omega) (by omega) (by omega) (by omega) (by omega) (by rw [hP2]; omega)
  obtain ⟨q, k, hq⟩ : ∃ q k, Tab.quotR (x * y) 10000 = (q, k) := ⟨_, _, rfl⟩
  have hql := Tab.quotR_le (x * y) 10000
  rw [hq] at h hql
  rw [hP2] at hq
  have HQ : Hid (∀ w, Calls Tryz.prog 142 #[.int .u64 hi, .int .u64 lo, .int .u64 10000] w fun e w' => e = .returned (.tuple #[.int .u64 q, .bool k]) ∧ ∃ n, w' = w.drewN n) := Lib.hid fun w => quot_any hi lo 10000 q k w hi1 lo1 (by omega) (by omega) hq
  have hql : q ≤ 1000000000000000000 := hql
  simp only at h
  clear hq hP hP2 hx hy ha hb
  cases k
  · simp only [Bool.false_eq_true, if_false, Prod.mk.injEq] at h
    obtain ⟨rfl, rfl⟩ := h
    go_enter Tryz.func95, Tryz.ntmps95
    go_wp2_with (first
      | (go_at_call_of 115 (Value.int IntKind.i64 a); refine (HA.out _).mono ?_; rintro e w' ⟨rfl, rfl⟩)
      | (go_at_call_of 115 (Value.int IntKind.i64 b); refine (HB.out _).mono ?_; rintro e w' ⟨rfl, rfl⟩)
      | (go_at_call 122; refine (HM.out _).mono ?_; rintro e w' ⟨rfl, rfl⟩)
      | (go_at_call 142; refine (HQ.out _).mono ?_; rintro e w' ⟨rfl, n, rfl⟩))
    go_ret2
    exact ⟨rfl, _, rfl⟩
  · simp only [if_true] at h
    have HMd := Lib.hid h
    clear h
    go_enter Tryz.func95, Tryz.ntmps95
    go_wp2_with (first
      | (go_at_call_of 115 (Value.int IntKind.i64 a); refine (HA.out _).mono ?_; rintro e w' ⟨rfl, rfl⟩)
      | (go_at_call_of 115 (Value.int IntKind.i64 b); refine (HB.out _).mono ?_; rintro e w' ⟨rfl, rfl⟩)
      | (go_at_call 122; refine (HM.out _).mono ?_; rintro e w' ⟨rfl, rfl⟩)
      | (go_at_call 142; refine (HQ.out _).mono ?_; rintro e w' ⟨rfl, n, rfl⟩)
      | (go_at_call 116; refine (made_any _ _ _ (by omega)).mono ?_; rintro e w' ⟨rfl, rfl⟩))
    go_ret2
    exact ⟨ret_ib (congrArg Prod.fst HMd.out) (congrArg Prod.snd HMd.out), _, rfl⟩
set_option maxHeartbeats 3200000 in
set_option maxRecDepth 100000 in
theorem div_any (a b n : Int) (ok : Bool) (w : World) (ha : -999999999999999999 ≤ a ∧ a ≤ 999999999999999999) (hb : -999999999999999999 ≤ b ∧ b ≤ 999999999999999999) (h : Tab.divS a b = (n, ok)) :
    Calls Tryz.prog 96 #[.int .i64 a, .int .i64 b] w fun e w' => e = .returned (.tuple #[.int .i64 n, .bool ok]) ∧ ∃ n, w' = w.drewN n := by
  by_cases hb0 : b = 0
  · subst hb0
    obtain ⟨rfl, rfl⟩ : 0 = n ∧ false = ok := by simpa [Tab.divS] using h
    clear h
    go_enter Tryz.func96, Tryz.ntmps96
    go_wp2
    go_ret2
    exact ⟨rfl, 0, rfl⟩
  unfold Tab.divS at h
  rw [if_neg hb0] at h
  have hbz : (b == 0) = false := by rw [beq_eq_false_iff_ne]; exact hb0
  obtain ⟨x, hx⟩ : ∃ x, a.natAbs = x := ⟨_, rfl⟩
  obtain ⟨y, hy⟩ : ∃ y, b.natAbs = y := ⟨_, rfl⟩
  have HA := Lib.hid fun w => size_any a w (by omega) (by omega)
  have HB := Lib.hid fun w => size_any b w (by omega) (by omega)
  rw [hx] at HA h
  rw [hy] at HB h
  have hy1 : 0 < y := by omega
  have hy2 : y < 9223372036854775808 := by omega
  rw [← Tab.quotR_made _ _ _ hy1] at h
  obtain ⟨hi, lo, hi1, lo1, hP2⟩ : ∃ hi lo : Nat, hi < 18446744073709551616 ∧ lo < 18446744073709551616 ∧ x * 10000 = hi * 18446744073709551616 + lo := ⟨x * 10000 / 18446744073709551616, x * 10000 % 18446744073709551616, by omega, by omega, by omega⟩
  have HM : Hid (∀ w, Calls Tryz.prog 122 #[.int .u64 x, .int .u64 10000] w fun e w' => e = .returned (.tuple #[.int .u64 hi, .int .u64 lo]) ∧ w = w') := Lib.hid fun w => mul_is x 10000 hi lo w (by omega) (by omega) (by omega) (by omega) (by omega) (by rw [hP2]; omega)
  obtain ⟨q, k, hq⟩ : ∃ q k, Tab.quotR (x * 10000) y = (q, k) := ⟨_, _, rfl⟩
  have hql := Tab.quotR_le (x * 10000) y
  rw [hq] at h hql
  rw [hP2] at hq
  have HQ := Lib.hid fun w => quot_any hi lo y q k w hi1 lo1 hy1 hy2 hq
  have hql : q ≤ 1000000000000000000 := hql
  simp only at h
  clear hq hP2 hx hy ha hb
  cases k
  · simp only [Bool.false_eq_true, if_false, Prod.mk.injEq] at h
    obtain ⟨rfl, rfl⟩ := h
    go_enter Tryz.func96, Tryz.ntmps96
    go_wp2_with (first
      | (go_at_call_of 115 (Value.int IntKind.i64 a); refine (HA.out _).mono ?_; rintro e w' ⟨rfl, rfl⟩)
      | (go_at_call_of 115 (Value.int IntKind.i64 b); refine (HB.out _).mono ?_; rintro e w' ⟨rfl, rfl⟩)
      | (go_at_call 122; refine (HM.out _).mono ?_; rintro e w' ⟨rfl, rfl⟩)
      | (go_at_call 142; refine (HQ.out _).mono ?_; rintro e w' ⟨rfl, n, rfl⟩))
    go_ret2
    exact ⟨rfl, _, rfl⟩
  · simp only [if_true] at h
    have HMd := Lib.hid h
    clear h
    go_enter Tryz.func96, Tryz.ntmps96
    go_wp2_with (first
      | (go_at_call_of 115 (Value.int IntKind.i64 a); refine (HA.out _).mono ?_; rintro e w' ⟨rfl, rfl⟩)
      | (go_at_call_of 115 (Value.int IntKind.i64 b); refine (HB.out _).mono ?_; rintro e w' ⟨rfl, rfl⟩)
      | (go_at_call 122; refine (HM.out _).mono ?_; rintro e w' ⟨rfl, rfl⟩)
      | (go_at_call 142; refine (HQ.out _).mono ?_; rintro e w' ⟨rfl, n, rfl⟩)
      | (go_at_call 116; refine (made_any _ _ _ (by omega)).mono ?_; rintro e w' ⟨rfl, rfl⟩))
    go_ret2
    exact ⟨ret_ib (congrArg Prod.fst HMd.out) (congrArg Prod.snd HMd.out), _, rfl⟩
end Go.Proofs.YtkobkeopajohiaaGreatDoor
namespace Go.Proofs.YtkobkeopajohiaaGreatDoor
open Go.RowKit Go.Lib

theorem pow_far (a n : Int) (w : World) (h : n < -1000 ∨ 1000 < n) :
    Calls Tryz.prog 117 #[.int .i64 a, .int .i64 n] w fun e w' => e = .returned (.tuple #[.int .i64 0, .bool false]) ∧ ∃ n, w' = w.drewN n := by
  rcases h with h | h
  all_goals
    go_enter Tryz.func117, Tryz.ntmps117
    go_wp2
    go_ret2
    exact ⟨rfl, 0, rfl⟩
set_option maxHeartbeats 3200000 in
set_option maxRecDepth 100000 in
theorem pow_near (a n r : Int) (ok : Bool) (w : World) (ha : -999999999999999999 ≤ a ∧ a ≤ 999999999999999999) (h1 : -1000 ≤ n) (h2 : n ≤ 1000) (h : Tab.powS a n = (r, ok)) :
    Calls Tryz.prog 117 #[.int .i64 a, .int .i64 n] w fun e w' => e = .returned (.tuple #[.int .i64 r, .bool ok]) ∧ ∃ n, w' = w.drewN n := by
  unfold Tab.powS at h
  rw [if_neg (by omega)] at h
  obtain ⟨m, hm⟩ : ∃ m, n.natAbs = m := ⟨_, rfl⟩
  rw [hm] at h
  have hmax : max n (-n) = (m : Int) := by omega
  have H := Lib.hid h
  clear h
  have hm1 : m ≤ 1000 := by omega
  have hst : Hid (Tab.powN (m - 0) 10000 a = Tab.powN m 10000 a) := Lib.hid rfl
  obtain ⟨R, hR⟩ : ∃ R, Tab.powN m 10000 a = R := ⟨_, rfl⟩
  rw [hR] at hst H
  have hRb : -999999999999999999 ≤ R.1 ∧ R.1 ≤ 999999999999999999 := by rw [← hR]; exact Tab.powN_bd m 10000 a (by omega)
  clear hR
  have HMM := Lib.hid hm
  clear hm
  go_enter Tryz.func117, Tryz.ntmps117
  go_wp2
  go_loopw [6, 7, 8] (fun vp vk vi wr => ∃ (p : Int) (k : Bool) (j : Nat), vp = .int .i64 p ∧ vk = .bool k ∧ vi = .int .i64 j ∧ j ≤ m ∧ (-999999999999999999 ≤ p ∧ p ≤ 999999999999999999) ∧ Hid ((k = true → Tab.powN (m - j) p a = R) ∧ (k = false → p = 0 ∧ R = (0, false))) ∧ Hid (∃ d, wr = w.drewN d)) (fun _ _ vi _ => m - (RowKit.intOf vi).toNat)
  case atStart => exact ⟨10000, true, 0, rfl, rfl, rfl, by omega, by omega, Lib.hid ⟨fun _ => hst.out, fun e => by simp at e⟩, Lib.hid ⟨0, rfl⟩⟩
  case round =>
    obtain ⟨p, k, j, rfl, rfl, rfl, hj, hp, hinv, hw⟩ := hrel
    cases k
    · obtain ⟨rfl, hR⟩ := hinv.out.2 rfl
      have h0 := H.out
      rw [hR] at h0
      simp only [Bool.false_eq_true, if_false, Prod.mk.injEq] at h0
      obtain ⟨rfl, rfl⟩ := h0
      clear hR hinv hst H hRb
      by_cases hjm : (j : Int) < m
      all_goals
        go_wp2
        go_ret2
        exact ⟨rfl, hw.out⟩
    · by_cases hjm : j < m
      · have h1' := hinv.out.1 rfl
        rw [show m - j = (m - (j + 1)) + 1 by omega] at h1'
        simp only [Tab.powN] at h1'
        obtain ⟨q, k2, hq⟩ : ∃ q k, Tab.mulS p a = (q, k) := ⟨_, _, rfl⟩
        have hqb := Tab.mulS_bd p a
        rw [hq] at h1' hqb
        have hqb : -999999999999999999 ≤ q ∧ q ≤ 999999999999999999 := hqb
        have HN : Hid ((k2 = true → Tab.powN (m - (j + 1)) q a = R) ∧ (k2 = false → q = 0 ∧ R = (0, false))) := Lib.hid ⟨fun e => by subst e; simpa using h1', fun e => by
          subst e
          have e2 := Tab.mulS_false (a := p) (b := a) (by rw [hq])
          rw [hq] at e2
          simp at e2 h1'
          exact ⟨e2, h1'.symm⟩⟩
        have HM := Lib.hid fun w => mul_any p a q k2 w hp ha hq
        have hjmi : (j : Int) < m := by omega
        obtain ⟨d, hd⟩ := hw.out
        subst hd
        clear h1' hq hinv hst hw
        go_wp2_with (first
          | (go_at_call 95; refine (HM.out _).mono ?_; rintro e w' ⟨rfl, d2, rfl⟩))
        go_roundw
        case rel => exact ⟨q, k2, j + 1, rfl, rfl, by go_num, by omega, hqb, HN, Lib.hid ⟨_, rfl⟩⟩
        case measure => simp [RowKit.intOf]; omega
      · obtain rfl : j = m := by omega
        have hR := hinv.out.1 rfl
        rw [Nat.sub_self] at hR
        simp only [Tab.powN] at hR
        subst hR
        have h0 := H.out
        simp only [if_true] at h0
        have HM := HMM.out
        clear hinv hst H
        by_cases hn : n < 0
        · rw [if_pos hn] at h0
          have HD := Lib.hid fun w => div_any 10000 p r ok w (by omega) hRb h0
          obtain ⟨d, hd⟩ := hw.out
          subst hd
          clear h0 hw HM
          go_wp2_with (first
            | (go_at_call 96; refine (HD.out _).mono ?_; rintro e w' ⟨rfl, d2, rfl⟩))
          go_ret2
          exact ⟨rfl, _, rfl⟩
        · rw [if_neg hn] at h0
          obtain ⟨rfl, rfl⟩ := Prod.mk.inj h0
          obtain ⟨d, hd⟩ := hw.out
          subst hd
          clear h0 hw HM
          go_wp2
          go_ret2
          exact ⟨rfl, _, rfl⟩
theorem pow_any (a n r : Int) (ok : Bool) (w : World) (ha : -999999999999999999 ≤ a ∧ a ≤ 999999999999999999) (h : Tab.powS a n = (r, ok)) :
    Calls Tryz.prog 117 #[.int .i64 a, .int .i64 n] w fun e w' => e = .returned (.tuple #[.int .i64 r, .bool ok]) ∧ ∃ n, w' = w.drewN n := by
  by_cases hf : n < -1000 ∨ 1000 < n
  · unfold Tab.powS at h
    rw [if_pos hf] at h
    obtain ⟨rfl, rfl⟩ := Prod.mk.inj h
    exact pow_far a n w hf
  · exact pow_near a n r ok w ha (by omega) (by omega) h
end Go.Proofs.YtkobkeopajohiaaGreatDoor
