/-
  CONTRACTS of package maths' nearest and fact, at all numbers.
-/
import Derived.Test.YtkobkeopajohiaaGreatDoorS2
namespace Go.Proofs.YtkobkeopajohiaaGreatDoor
open Go.RowKit Go.Lib

/-- the multiple of a step that is nearest, of sizes -/
def nearX (A S : Nat) : Nat := if S ≤ 2 * (A % S) then A - A % S + S else A - A % S
def nearV (a s : Int) : V :=
  if s = 0 then .num 0 else if (a < 0 ∧ 0 < s) ∨ (0 < a ∧ s < 0) then .fail 2
  else if 999999999999999999 < nearX a.natAbs s.natAbs then .fail 2 else .num (if a < 0 then -(nearX a.natAbs s.natAbs : Int) else (nearX a.natAbs s.natAbs : Int))
set_option maxHeartbeats 1600000 in
set_option maxRecDepth 100000 in
theorem nearest_main (a s : Int) (A S X : Nat) (v : V) (w : World) (hA : a.natAbs = A) (hS : s.natAbs = S) (ha : -999999999999999999 ≤ a ∧ a ≤ 999999999999999999) (hs : -999999999999999999 ≤ s ∧ s ≤ 999999999999999999) (hs0 : s ≠ 0)
    (hw : a = 0 ∨ (a < 0 ∧ s < 0) ∨ (0 < a ∧ 0 < s)) (hX : nearX A S = X) (hv : (if 999999999999999999 < X then V.fail 2 else V.num (if a < 0 then -(X : Int) else (X : Int))) = v) :
    Calls Tryz.prog 51 #[.int .i64 a, .int .i64 s] w fun e w' => e = .returned v.val ∧ w = w' := by
  have hw : a = 0 ∨ (a < 0 ∧ decide (a < 0) = true ∧ decide (s < 0) = true ∧ (a != 0) = true) ∨ (¬ a < 0 ∧ decide (a < 0) = false ∧ decide (s < 0) = false ∧ (a != 0) = true) := by
    rcases hw with h | ⟨h1, h2⟩ | ⟨h1, h2⟩
    · exact .inl h
    · exact .inr (.inl ⟨h1, decide_eq_true h1, decide_eq_true h2, by simp; omega⟩)
    · exact .inr (.inr ⟨by omega, decide_eq_false (by omega), decide_eq_false (by omega), by simp; omega⟩)
  have HAs := Lib.hid fun w => abs_any s w (by omega) (by omega)
  have HAa := Lib.hid fun w => abs_any a w (by omega) (by omega)
  rw [hA] at HAa
  rw [hS] at HAs
  have hS1 : 1 ≤ S := by omega
  have hSb : S ≤ 999999999999999999 := by omega
  have hAb : A ≤ 999999999999999999 := by omega
  obtain ⟨r, hr⟩ : ∃ r, A % S = r := ⟨_, rfl⟩
  have hrS : r < S := by rw [← hr]; exact Nat.mod_lt _ hS1
  have hrA : r ≤ A := by rw [← hr]; exact Nat.mod_le _ _
  obtain ⟨low, hl⟩ : ∃ l, A - r = l := ⟨_, rfl⟩
  have hri : (A : Int) % (S : Int) = (r : Int) := by rw [← hr]; rfl
  have HF : Hid (∀ w, Calls Tryz.prog 44 #[.int .i64 A, .int .i64 S] w fun e w' => e = .returned (.tuple #[.int .i64 (low : Int), .bool true]) ∧ w = w') := Lib.hid fun w => by
    have := floor_any (A : Int) (S : Int) w (by omega) (by omega)
    rw [hri, show (A : Int) - (r : Int) = (low : Int) by omega, show Tab.fit (low : Int) = ((low : Int), true) by unfold Tab.fit; rw [if_pos (by omega)]] at this
    exact this
  unfold nearX at hX
  rw [hr, hl] at hX
  have hrest : (A : Int) - (low : Int) = (r : Int) := by omega
  have hsz : (s == 0) = false := by rw [beq_eq_false_iff_ne]; exact hs0
  have hlb : low ≤ 999999999999999999 := by omega
  by_cases hup : S ≤ 2 * r
  · rw [if_pos hup] at hX
    have hupi : (S : Int) - (r : Int) ≤ (r : Int) := by omega
    have hsum : (low : Int) + (S : Int) = (X : Int) := by omega
    by_cases hbig : 999999999999999999 < X
    · rw [if_pos hbig] at hv
      subst hv
      have HAd : Hid (∀ w, Calls Tryz.prog 93 #[.int .i64 low, .int .i64 S] w fun e w' => e = .returned (.tuple #[.int .i64 0, .bool false]) ∧ w = w') := Lib.hid fun w => add_is low S 0 false w (by omega) (by rw [hsum]; unfold Tab.fit; rw [if_neg (by omega)])
      simp only [V.val]
      clear hX hup hr hl hri hsum hbig hA hS hs0
      rcases hw with rfl | ⟨h1, da, ds, hna⟩ | ⟨h1, da, ds, hna⟩
      all_goals
        go_enter Tryz.func51, Tryz.ntmps51
        go_wp2_with (first
          | (go_at_call_of 41 (Value.int IntKind.i64 s); refine (HAs.out _).mono ?_; rintro e w' ⟨rfl, rfl⟩)
          | (go_at_call 41; refine (HAa.out _).mono ?_; rintro e w' ⟨rfl, rfl⟩)
          | (go_at_call 44; refine (HF.out _).mono ?_; rintro e w' ⟨rfl, rfl⟩)
          | (go_at_call 93; refine (HAd.out _).mono ?_; rintro e w' ⟨rfl, rfl⟩))
        go_ret
        exact ⟨rfl, rfl⟩
    · rw [if_neg hbig] at hv
      have HAd : Hid (∀ w, Calls Tryz.prog 93 #[.int .i64 low, .int .i64 S] w fun e w' => e = .returned (.tuple #[.int .i64 (X : Int), .bool true]) ∧ w = w') := Lib.hid fun w => add_is low S X true w (by omega) (by rw [hsum]; unfold Tab.fit; rw [if_pos (by omega)])
      clear hX hup hr hl hri hsum hA hS hs0
      rcases hw with rfl | ⟨h1, da, ds, hna⟩ | ⟨h1, da, ds, hna⟩
      all_goals
        first | rw [if_pos h1] at hv | rw [if_neg h1] at hv | rw [if_neg (show ¬ (0 : Int) < 0 by decide)] at hv
        subst hv
        simp only [V.val]
        go_enter Tryz.func51, Tryz.ntmps51
        go_wp2_with (first
          | (go_at_call_of 41 (Value.int IntKind.i64 s); refine (HAs.out _).mono ?_; rintro e w' ⟨rfl, rfl⟩)
          | (go_at_call 41; refine (HAa.out _).mono ?_; rintro e w' ⟨rfl, rfl⟩)
          | (go_at_call 44; refine (HF.out _).mono ?_; rintro e w' ⟨rfl, rfl⟩)
          | (go_at_call 93; refine (HAd.out _).mono ?_; rintro e w' ⟨rfl, rfl⟩))
        go_ret
        exact ⟨rfl, rfl⟩
  · rw [if_neg hup] at hX
    subst hX
    have hupi : ¬ (S : Int) - (r : Int) ≤ (r : Int) := by omega
    rw [if_neg (by omega)] at hv
    clear hup hr hl hri hA hS hs0
    rcases hw with rfl | ⟨h1, da, ds, hna⟩ | ⟨h1, da, ds, hna⟩
    all_goals
      first | rw [if_pos h1] at hv | rw [if_neg h1] at hv | rw [if_neg (show ¬ (0 : Int) < 0 by decide)] at hv
      subst hv
      simp only [V.val]
      go_enter Tryz.func51, Tryz.ntmps51
      go_wp2_with (first
        | (go_at_call_of 41 (Value.int IntKind.i64 s); refine (HAs.out _).mono ?_; rintro e w' ⟨rfl, rfl⟩)
        | (go_at_call 41; refine (HAa.out _).mono ?_; rintro e w' ⟨rfl, rfl⟩)
        | (go_at_call 44; refine (HF.out _).mono ?_; rintro e w' ⟨rfl, rfl⟩))
      go_ret
      exact ⟨rfl, rfl⟩
set_option maxHeartbeats 1600000 in
set_option maxRecDepth 100000 in
theorem nearest_any (a s : Int) (v : V) (w : World) (ha : -999999999999999999 ≤ a ∧ a ≤ 999999999999999999) (hs : -999999999999999999 ≤ s ∧ s ≤ 999999999999999999) (hv : nearV a s = v) :
    Calls Tryz.prog 51 #[.int .i64 a, .int .i64 s] w fun e w' => e = .returned v.val ∧ w = w' := by
  unfold nearV at hv
  by_cases h0 : s = 0
  · rw [if_pos h0] at hv
    subst hv h0
    simp only [V.val]
    go_enter Tryz.func51, Tryz.ntmps51
    go_wp2
    go_ret
    exact ⟨rfl, rfl⟩
  · rw [if_neg h0] at hv
    by_cases hg : (a < 0 ∧ 0 < s) ∨ (0 < a ∧ s < 0)
    · rw [if_pos hg] at hv
      subst hv
      simp only [V.val]
      have hz : (s == 0) = false := by rw [beq_eq_false_iff_ne]; exact h0
      rcases hg with ⟨h1, h2⟩ | ⟨h1, h2⟩
      all_goals
        have haz : (a != 0) = true := by simp; omega
        have da : decide (a < 0) = true ∧ decide (s < 0) = false ∨ decide (a < 0) = false ∧ decide (s < 0) = true := by
          by_cases h : a < 0
          · exact .inl ⟨decide_eq_true h, decide_eq_false (by omega)⟩
          · exact .inr ⟨decide_eq_false h, decide_eq_true (by omega)⟩
        rcases da with ⟨da, ds⟩ | ⟨da, ds⟩ <;> first | (exfalso; simp at da ds; omega) | skip
        go_enter Tryz.func51, Tryz.ntmps51
        go_wp2
        go_ret
        exact ⟨rfl, rfl⟩
    · rw [if_neg hg] at hv
      exact nearest_main a s _ _ _ v w rfl rfl ha hs h0 (by omega) rfl hv

def fac : Nat → Nat | 0 => 1 | n + 1 => (n + 1) * fac n
theorem mul_fac : ∀ i : Fin 17, 2 ≤ i.val → Tab.mulS (10000 * (fac (i.val - 1) : Nat) : Int) ((i.val : Int) * 10000) = ((10000 * (fac i.val : Nat) : Int), true) := by decide +kernel
theorem mul_fac17 : Tab.mulS (10000 * (fac 16 : Nat) : Int) (17 * 10000) = (0, false) := by decide +kernel
theorem fac_bd : ∀ i : Fin 17, fac i.val ≤ 99999999999999 := by decide +kernel
/-- the loop of fact -/
def FactInv (n : Nat) (p : Int) (k : Bool) (i : Nat) : Prop := (k = true ∧ p = 10000 * (fac (i - 1) : Nat) ∧ i ≤ 17 ∧ (i = 2 ∨ i ≤ n + 1)) ∨ (k = false ∧ p = 0 ∧ i = 18 ∧ 17 ≤ n)
def factV (a : Int) : V := if a < 0 then .fail 2 else if 16 < a.toNat / 10000 then .fail 2 else .num (10000 * (fac (a.toNat / 10000) : Nat))
set_option maxHeartbeats 3200000 in
set_option maxRecDepth 100000 in
theorem fact_any (a : Int) (v : V) (w : World) (ha : -999999999999999999 ≤ a ∧ a ≤ 999999999999999999) (hv : factV a = v) :
    Calls Tryz.prog 56 #[.int .i64 a] w fun e w' => e = .returned v.val ∧ ∃ n, w' = w.drewN n := by
  unfold factV at hv
  have HW := Lib.hid fun w => whole_any a w ha.1 ha.2
  by_cases hn : a < 0
  · rw [if_pos hn] at hv
    subst hv
    simp only [V.val]
    generalize a.tdiv 10000 = q at *
    go_enter Tryz.func56, Tryz.ntmps56
    go_wp2_with (first | (go_at_call 114; refine (HW.out _).mono ?_; rintro e w' ⟨rfl, rfl⟩))
    go_ret
    exact ⟨rfl, 0, rfl⟩
  · rw [if_neg hn] at hv
    obtain ⟨n, hnn⟩ : ∃ n, a.toNat / 10000 = n := ⟨_, rfl⟩
    have hq : a.tdiv 10000 = (n : Int) := by rw [Int.tdiv_eq_ediv_of_nonneg (by omega)]; omega
    rw [hq] at HW
    rw [hnn] at hv
    clear hq hnn
    by_cases h30 : 30 < n
    · rw [if_pos (by omega)] at hv
      subst hv
      simp only [V.val]
      have h30i : (30 : Int) < n := by omega
      go_enter Tryz.func56, Tryz.ntmps56
      go_wp2_with (first | (go_at_call 114; refine (HW.out _).mono ?_; rintro e w' ⟨rfl, rfl⟩))
      go_ret
      exact ⟨rfl, 0, rfl⟩
    · have h30i : ¬ (30 : Int) < n := by omega
      have HC1 : Hid (n ≤ 16 → ∀ w, Calls Tryz.prog 43 #[.int .i64 (10000 * (fac n : Nat)), .bool true] w fun e w' => e = .returned v.val ∧ w = w') := Lib.hid fun h w => counted_v _ true v w (by rw [if_neg (by omega)] at hv; exact hv)
      have HC2 : Hid (16 < n → ∀ w, Calls Tryz.prog 43 #[.int .i64 0, .bool false] w fun e w' => e = .returned v.val ∧ w = w') := Lib.hid fun h w => counted_v 0 false v w (by rw [if_pos h] at hv; exact hv)
      clear hv
      generalize v.val = vv at *
      go_enter Tryz.func56, Tryz.ntmps56
      go_wp2_with (first | (go_at_call 114; refine (HW.out _).mono ?_; rintro e w' ⟨rfl, rfl⟩))
      go_loopw [4, 5, 6] (fun vp vk vi wr => ∃ (p : Int) (k : Bool) (i : Nat), vp = .int .i64 p ∧ vk = .bool k ∧ vi = .int .i64 i ∧ i ≤ 18 ∧ 2 ≤ i ∧ Hid (FactInv n p k i) ∧ Hid (∃ d, wr = w.drewN d)) (fun _ _ vi _ => 18 - (RowKit.intOf vi).toNat)
      case atStart => exact ⟨10000, true, 2, rfl, rfl, rfl, by omega, by omega, Lib.hid (.inl ⟨rfl, by decide, by omega, .inl rfl⟩), Lib.hid ⟨0, rfl⟩⟩
      case round =>
        obtain ⟨p, k, i, rfl, rfl, rfl, hi18, hi2, hinv, hw⟩ := hrel
        rcases hinv.out with ⟨rfl, hp, hi17, hin⟩ | ⟨rfl, rfl, rfl, h17⟩
        · by_cases hle : i ≤ n
          · have hlei : (i : Int) ≤ n := by omega
            by_cases h16 : i ≤ 16
            · have hm := mul_fac ⟨i, by omega⟩ hi2
              simp only at hm
              rw [← hp] at hm
              have hpb : -999999999999999999 ≤ p ∧ p ≤ 999999999999999999 := by have := fac_bd ⟨i - 1, by omega⟩; simp only at this; omega
              have HM := Lib.hid fun w => mul_any p ((i : Int) * 10000) _ _ w hpb (by omega) hm
              have HN : Hid (FactInv n (10000 * (fac i : Nat) : Int) true (i + 1)) := Lib.hid (.inl ⟨rfl, by rw [Nat.add_sub_cancel], by omega, .inr (by omega)⟩)
              obtain ⟨d, hd⟩ := hw.out
              subst hd
              clear hm hp hinv hw
              generalize (10000 * (fac i : Nat) : Int) = p2 at *
              go_wp2_with (first | (go_at_call 95; refine (HM.out _).mono ?_; rintro e w' ⟨rfl, d2, rfl⟩))
              go_roundw
              case rel => exact ⟨p2, true, i + 1, rfl, rfl, by go_num, by omega, by omega, HN, Lib.hid ⟨_, rfl⟩⟩
              case measure => simp [RowKit.intOf]; omega
            · obtain rfl : i = 17 := by omega
              have hpb : -999999999999999999 ≤ p ∧ p ≤ 999999999999999999 := by rw [hp]; decide +kernel
              have hm := mul_fac17
              have hp2 : p = (10000 * (fac 16 : Nat) : Int) := hp
              rw [← hp2] at hm
              have HM : Hid (∀ w, Calls Tryz.prog 95 #[.int .i64 p, .int .i64 170000] w fun e w' => e = .returned (.tuple #[.int .i64 0, .bool false]) ∧ ∃ n, w' = w.drewN n) := Lib.hid fun w => mul_any p 170000 0 false w hpb (by omega) hm
              obtain ⟨d, hd⟩ := hw.out
              subst hd
              clear hm hp hp2 hinv hw
              go_wp2_with (first | (go_at_call 95; refine (HM.out _).mono ?_; rintro e w' ⟨rfl, d2, rfl⟩))
              go_roundw
              case rel => exact ⟨0, false, 18, rfl, rfl, rfl, by omega, by omega, Lib.hid (.inr ⟨rfl, rfl, rfl, by omega⟩), Lib.hid ⟨_, rfl⟩⟩
              case measure => simp [RowKit.intOf]
          · have hlei : ¬ (i : Int) ≤ n := by omega
            have hpn : p = 10000 * (fac n : Nat) := by
              rw [hp]
              rcases Nat.eq_zero_or_pos n with h0 | h0
              · obtain rfl : i = 2 := by omega
                subst h0; rfl
              · rw [show i - 1 = n by omega]
            have HC := Lib.hid (HC1.out (by omega))
            rw [← hpn] at HC
            obtain ⟨d, hd⟩ := hw.out
            subst hd
            clear hp hpn hinv hw HC1 HC2
            go_wp2_with (first | (go_at_call 43; refine (HC.out _).mono ?_; rintro e w' ⟨rfl, rfl⟩))
            go_ret
            exact ⟨rfl, _, rfl⟩
        · have HC := Lib.hid (HC2.out (by omega))
          obtain ⟨d, hd⟩ := hw.out
          subst hd
          clear hinv hw HC1 HC2
          by_cases hle : (18 : Int) ≤ n
          all_goals
            go_wp2_with (first | (go_at_call 43; refine (HC.out _).mono ?_; rintro e w' ⟨rfl, rfl⟩))
            go_ret
            exact ⟨rfl, _, rfl⟩
end Go.Proofs.YtkobkeopajohiaaGreatDoor
