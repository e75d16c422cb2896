/-
  CONTRACT of the reference's Sign, at every place of a text; and of its Signs: it answers as the program's own.
-/
import Derived.Test.YtkobkeopajohiaaGreatDoorG2
import Derived.LoopTactic
namespace Go.Proofs.YtkobkeopajohiaaGreatDoor
open Go.RowKit Go.Lib

set_option maxRecDepth 100000 in
theorem sign_low (s : ByteArray) (p : Nat) (h : p < s.size) (h1 : ((s[p]'h).toNat : Int) < 128) (w : World) :
    Calls Tryz.prog 150 #[.string s, .int .i64 (p : Int)] w fun e w' => e = .returned (.int .i64 1) ∧ w = w' := by
  go_enter Tryz.func150, Tryz.ntmps150
  go_wp2
  go_ret
  exact ⟨rfl, rfl⟩
set_option maxHeartbeats 1600000 in
set_option maxRecDepth 100000 in
theorem sign_none (s : ByteArray) (p : Nat) (h : p < s.size) (c : Int) (hc : ((s[p]'h).toNat : Int) = c) (hcl : (128 ≤ c ∧ c < 194) ∨ (244 < c ∧ c ≤ 255)) (w : World) :
    Calls Tryz.prog 150 #[.string s, .int .i64 (p : Int)] w fun e w' => e = .returned (.int .i64 0) ∧ w = w' := by
  rcases hcl with ⟨h1, h2⟩ | ⟨h1, h2⟩
  · have h4 : (c == 237) = false := by rw [beq_eq_false_iff_ne]; omega
    have h5 : (c == 224) = false := by rw [beq_eq_false_iff_ne]; omega
    have h6 : (c == 240) = false := by rw [beq_eq_false_iff_ne]; omega
    have h7 : (c == 244) = false := by rw [beq_eq_false_iff_ne]; omega
    have h8 : ¬ 194 ≤ c := by omega
    have h10 : ¬ c < 128 := by omega
    have h11 : ¬ 224 ≤ c := by omega
    have h12 : ¬ 240 ≤ c := by omega
    clear h1 h2
    go_enter Tryz.func150, Tryz.ntmps150
    go_wp2
    go_ret
    exact ⟨rfl, rfl⟩
  · have h4 : (c == 237) = false := by rw [beq_eq_false_iff_ne]; omega
    have h5 : (c == 224) = false := by rw [beq_eq_false_iff_ne]; omega
    have h6 : (c == 240) = false := by rw [beq_eq_false_iff_ne]; omega
    have h7 : (c == 244) = false := by rw [beq_eq_false_iff_ne]; omega
    have h8 : 194 ≤ c := by omega
    have h9 : ¬ c ≤ 223 := by omega
    have h10 : ¬ c < 128 := by omega
    have h11 : 224 ≤ c := by omega
    have h12 : 240 ≤ c := by omega
    have h13 : ¬ c ≤ 239 := by omega
    have h14 : ¬ c ≤ 244 := by omega
    clear h1
    go_enter Tryz.func150, Tryz.ntmps150
    go_wp2
    go_ret
    exact ⟨rfl, rfl⟩
theorem refSign_any (s : ByteArray) (p : Nat) (h : p < s.size) (hs : s.size ≤ 9223372036854775800) (w : World) :
    Calls Tryz.prog 150 #[.string s, .int .i64 (p : Int)] w fun e w' => e = .returned (.int .i64 (signAt s p : Int)) ∧ w = w' := by
  rw [signAt_G, get_at s p h]
  have m1 : ∀ (lo hi : Nat) w, Calls Tryz.prog 164 #[.string s, .int .i64 ((p : Int) + 1), .int .i64 (lo : Int), .int .i64 (hi : Int)] w fun e w' => e = .returned (.bool (goesOn s (p + 1) lo hi)) ∧ w = w' := fun lo hi w => more_any s (p + 1) lo hi w
  have m2 : ∀ w, Calls Tryz.prog 164 #[.string s, .int .i64 ((p : Int) + 2), .int .i64 128, .int .i64 191] w fun e w' => e = .returned (.bool (goesOn s (p + 2) 128 191)) ∧ w = w' := fun w => more_any s (p + 2) 128 191 w
  have m3 : ∀ w, Calls Tryz.prog 164 #[.string s, .int .i64 ((p : Int) + 3), .int .i64 128, .int .i64 191] w fun e w' => e = .returned (.bool (goesOn s (p + 3) 128 191)) ∧ w = w' := fun w => more_any s (p + 3) 128 191 w
  have hlt := (s[p]'h).toNat_lt
  obtain ⟨c, hc⟩ : ∃ c, (s[p]'h).toNat = c := ⟨_, rfl⟩
  have hci : ((s[p]'h).toNat : Int) = (c : Int) := by rw [hc]
  rw [hc] at hlt ⊢
  by_cases a0 : c < 128
  · have e : signG c (fun k lo hi => goesOn s (p + k) lo hi) = 1 := by unfold signG; rw [if_pos a0]
    rw [e]
    exact sign_low s p h (by omega) w
  by_cases a1 : 194 ≤ c ∧ c ≤ 223
  · have key := sign_two s p h hs c hci (by omega) (by omega) _ w (m1 128 191)
    have e : signG c (fun k lo hi => goesOn s (p + k) lo hi) = if goesOn s (p + 1) 128 191 = true then 2 else 0 := by
      unfold signG
      rw [if_neg a0]
      by_cases g : goesOn s (p + 1) 128 191 = true
      · rw [if_pos ⟨a1.1, a1.2, g⟩, if_pos g]
      · rw [if_neg (fun x => g x.2.2), if_neg g, if_neg (by omega), if_neg (by omega)]
    rw [e]
    refine key.mono fun e w' ⟨h1, h2⟩ => ⟨?_, h2⟩
    rw [h1]
    split <;> rfl
  by_cases a2 : 224 ≤ c ∧ c ≤ 239
  · obtain ⟨lo, hi, hcl, hl1, hl2⟩ : ∃ lo hi : Nat, (((c : Int) = 224 ∧ (lo : Int) = 160 ∧ (hi : Int) = 191) ∨ ((c : Int) = 237 ∧ (lo : Int) = 128 ∧ (hi : Int) = 159) ∨ (224 < (c : Int) ∧ (c : Int) ≤ 239 ∧ (c : Int) ≠ 237 ∧ (lo : Int) = 128 ∧ (hi : Int) = 191)) ∧
        (if c = 240 then 144 else if c = 224 ∨ c = 240 then 160 else 128) = lo ∧ (if c = 244 then 143 else if c = 237 then 159 else 191) = hi := by
      by_cases b1 : c = 224
      · subst b1; exact ⟨160, 191, .inl ⟨rfl, rfl, rfl⟩, rfl, rfl⟩
      by_cases b2 : c = 237
      · subst b2; exact ⟨128, 159, .inr (.inl ⟨rfl, rfl, rfl⟩), rfl, rfl⟩
      · exact ⟨128, 191, .inr (.inr ⟨by omega, by omega, by omega, rfl, rfl⟩), by rw [if_neg (by omega), if_neg (by omega)], by rw [if_neg (by omega), if_neg b2]⟩
    have key := sign_three s p h hs c lo hi hci hcl _ _ _ rfl w (m1 lo hi) m2
    have e : signG c (fun k lo hi => goesOn s (p + k) lo hi) = if (goesOn s (p + 1) lo hi && goesOn s (p + 2) 128 191) then 3 else 0 := by
      unfold signG
      rw [if_neg a0, if_neg (by omega)]
      simp only [hl1, hl2]
      by_cases g : goesOn s (p + 1) lo hi = true ∧ goesOn s (p + 2) 128 191 = true
      · rw [if_pos ⟨a2.1, a2.2, g.1, g.2⟩, if_pos (by rw [g.1, g.2]; rfl)]
      · rw [if_neg (fun x => g ⟨x.2.2.1, x.2.2.2⟩), if_neg (by omega), if_neg (by rw [Bool.and_eq_true]; exact g)]
    rw [e]
    refine key.mono fun e w' ⟨h1, h2⟩ => ⟨?_, h2⟩
    rw [h1]
    split <;> rfl
  by_cases a3 : 240 ≤ c ∧ c ≤ 244
  · obtain ⟨lo, hi, hcl, hl1, hl2⟩ : ∃ lo hi : Nat, (((c : Int) = 240 ∧ (lo : Int) = 144 ∧ (hi : Int) = 191) ∨ ((c : Int) = 244 ∧ (lo : Int) = 128 ∧ (hi : Int) = 143) ∨ (240 < (c : Int) ∧ (c : Int) < 244 ∧ (lo : Int) = 128 ∧ (hi : Int) = 191)) ∧
        (if c = 240 then 144 else if c = 224 ∨ c = 240 then 160 else 128) = lo ∧ (if c = 244 then 143 else if c = 237 then 159 else 191) = hi := by
      by_cases b1 : c = 240
      · subst b1; exact ⟨144, 191, .inl ⟨rfl, rfl, rfl⟩, rfl, rfl⟩
      by_cases b2 : c = 244
      · subst b2; exact ⟨128, 143, .inr (.inl ⟨rfl, rfl, rfl⟩), rfl, rfl⟩
      · exact ⟨128, 191, .inr (.inr ⟨by omega, by omega, rfl, rfl⟩), by rw [if_neg (by omega), if_neg (by omega)], by rw [if_neg (by omega), if_neg (by omega)]⟩
    have key := sign_four s p h hs c lo hi hci hcl _ _ _ _ rfl w (m1 lo hi) m2 m3
    have e : signG c (fun k lo hi => goesOn s (p + k) lo hi) = if (goesOn s (p + 1) lo hi && goesOn s (p + 2) 128 191 && goesOn s (p + 3) 128 191) then 4 else 0 := by
      unfold signG
      rw [if_neg a0, if_neg (by omega)]
      simp only [hl1, hl2]
      rw [if_neg (by omega)]
      by_cases g : goesOn s (p + 1) lo hi = true ∧ goesOn s (p + 2) 128 191 = true ∧ goesOn s (p + 3) 128 191 = true
      · rw [if_pos ⟨a3.1, a3.2, g.1, g.2.1, g.2.2⟩, if_pos (by rw [g.1, g.2.1, g.2.2]; rfl)]
      · rw [if_neg (fun x => g ⟨x.2.2.1, x.2.2.2.1, x.2.2.2.2⟩), if_neg (by rw [Bool.and_eq_true, Bool.and_eq_true, and_assoc]; exact g)]
    rw [e]
    refine key.mono fun e w' ⟨h1, h2⟩ => ⟨?_, h2⟩
    rw [h1]
    split <;> rfl
  · have e : signG c (fun k lo hi => goesOn s (p + k) lo hi) = 0 := by
      unfold signG
      rw [if_neg a0, if_neg (by omega), if_neg (by omega), if_neg (by omega)]
    rw [e]
    exact sign_none s p h c hci (by omega) w

set_option maxHeartbeats 1600000 in
set_option maxRecDepth 100000 in
theorem refSigns_any (s : ByteArray) (w : World) (hs : s.size ≤ 9223372036854775800) (R : Int × Bool) (hR : signsFrom s s.size 0 0 = R) :
    Calls Tryz.prog 137 #[.string s] w fun e w' => e = .returned (.tuple #[.int .i64 R.1, .bool R.2]) ∧ w = w' := by
  have HR := Lib.hid hR
  have HS := Lib.hid fun p h w => refSign_any s p h hs w
  clear hR
  go_enter Tryz.func137, Tryz.ntmps137
  go_wp2
  go_loopw [4, 5] (fun n at' wr => ∃ (pos b : Nat) (acc : Int), n = .int .i64 acc ∧ at' = .int .i64 (pos : Int) ∧ Hid (signsFrom s b pos acc = R) ∧ s.size ≤ pos + b ∧ pos ≤ s.size + 4 ∧ 0 ≤ acc ∧ acc ≤ pos ∧ w = wr)
    (fun _ at' _ => s.size - (RowKit.intOf at').toNat)
  case atStart => exact ⟨0, s.size, 0, rfl, rfl, Lib.hid HR.out, by omega, by omega, by omega, by omega, rfl⟩
  case round =>
    obtain ⟨pos, b, acc, rfl, rfl, hinv, hb, hps, ha0, ha1, rfl⟩ := hrel
    by_cases hp : pos < s.size
    · have hsg := signAt_eq s pos
      have hwd := width_pos s pos hp
      obtain ⟨f, rfl⟩ : ∃ f, b = f + 1 := ⟨b - 1, by omega⟩
      have hst : (if badAt s pos then ((0, false) : Int × Bool) else signsFrom s f (pos + (Utf8.decode s pos).2) (acc + 1)) = R := by have := hinv.out; unfold signsFrom at this; rw [if_pos hp] at this; exact this
      have HG := Lib.hid fun w => HS.out pos hp w
      have hw4 : signAt s pos ≤ 4 := by
        rw [signAt_G]; unfold signG
        simp only
        repeat' split
        all_goals omega
      by_cases hbad : badAt s pos = true
      · rw [if_pos hbad] at hsg hst
        rw [hsg] at HG
        have HRR : Hid (R = (0, false)) := Lib.hid hst.symm
        clear hsg hst hbad hwd hw4
        go_wp2_with (first | (go_at_call 150; fail))
        go_at_call 150
        refine (HG.out _).mono ?_
        rintro e w' ⟨rfl, rfl⟩
        go_wp2
        go_ret2
        exact ⟨by rw [HRR.out]; rfl, rfl⟩
      · rw [if_neg hbad] at hsg hst
        have hd1 : 1 ≤ signAt s pos := by rw [hsg]; exact hwd
        rw [← hsg] at hst
        generalize signAt s pos = d at *
        have HRR := Lib.hid hst
        have hd0 : ((d : Int) == 0) = false := by rw [beq_eq_false_iff_ne]; omega
        clear hsg hst hbad hwd
        go_wp2_with (first | (go_at_call 150; fail))
        go_at_call 150
        refine (HG.out _).mono ?_
        rintro e w' ⟨rfl, rfl⟩
        go_wp2
        go_roundw
        case rel => exact ⟨pos + d, f, acc + 1, rfl, by simp, HRR, by omega, by omega, by omega, by omega, trivial⟩
        case measure => simp [RowKit.intOf]; omega
    · have HRR : Hid (R = (acc, true)) := Lib.hid (by
        rw [← hinv.out]
        cases b with
        | zero => rfl
        | succ b => unfold signsFrom; rw [if_neg hp])
      go_wp2
      go_ret2
      exact ⟨by rw [HRR.out]; rfl, rfl⟩
end Go.Proofs.YtkobkeopajohiaaGreatDoor
