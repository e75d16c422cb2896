/-
  CONTRACTS of the reference's more and Sign: how many bytes the sign at a place has.
  CONTRACT of the reference's Sign, at every place of a text; and of its Signs: it answers as the program's own.
  CONTRACT of the reference's Of: it tells what the program's own value tells.
  CONTRACT of the law helper Made of layer 15: a value, and what the reference makes of it.
  CONTRACTS for the law ValueFails: Told, AsText, AsBool, Hold, Arith and Join at failures.
-/
import Derived.Test.YtkobkeopajohiaaGreatDoorGG
import Derived.LoopTactic
import Derived.Test.YtkobkeopajohiaaGreatDoorQQ
import Derived.Handy
import Derived.Deep.RegionHeld3
namespace Go.Proofs.YtkobkeopajohiaaGreatDoor
open Go.RowKit Go.Lib

/-- a byte that goes on a sign -/
def goesOn (s : ByteArray) (p lo hi : Nat) : Bool := decide (p < s.size) && (decide (lo ≤ (s.get! p).toNat) && decide ((s.get! p).toNat ≤ hi))
theorem get_at (s : ByteArray) (p : Nat) (h : p < s.size) : s.get! p = s[p]'h := by
  simp only [ByteArray.get!]
  rw [getElem!_pos s.data p h]
  rfl
set_option maxRecDepth 100000 in
theorem more_any (s : ByteArray) (p : Nat) (lo hi : Nat) (w : World) :
    Calls Tryz.prog 164 #[.string s, .int .i64 (p : Int), .int .i64 (lo : Int), .int .i64 (hi : Int)] w fun e w' => e = .returned (.bool (goesOn s p lo hi)) ∧ w = w' := by
  by_cases h : p < s.size
  · have hb := (s[p]'h).toNat_lt
    have hb9 : ((s[p]'h).toNat : Int) < 256 := by omega
    have hg : Hid (goesOn s p lo hi = (decide ((lo : Int) ≤ ((s[p]'h).toNat : Int)) && decide (((s[p]'h).toNat : Int) ≤ (hi : Int)))) := Lib.hid (by
      unfold goesOn
      rw [get_at s p h]
      simp [h])
    clear hb
    by_cases h1 : (lo : Int) ≤ ((s[p]'h).toNat : Int)
    · go_enter Tryz.func164, Tryz.ntmps164
      go_wp2
      go_ret
      exact ⟨by rw [hg.out]; simp [h1], rfl⟩
    · go_enter Tryz.func164, Tryz.ntmps164
      go_wp2
      go_ret
      exact ⟨by rw [hg.out]; simp; intro h; omega, rfl⟩
  · have hg : Hid (goesOn s p lo hi = false) := Lib.hid (by unfold goesOn; simp [h])
    go_enter Tryz.func164, Tryz.ntmps164
    go_wp2
    go_ret
    exact ⟨by rw [hg.out]; rfl, rfl⟩

theorem goesOn_iff (s : ByteArray) (p k lo hi : Nat) (hk : 0 < k) : (k < s.size - p ∧ lo ≤ (s.get! (p + k)).toNat ∧ (s.get! (p + k)).toNat ≤ hi) ↔ goesOn s (p + k) lo hi = true := by
  unfold goesOn
  simp only [Bool.and_eq_true, decide_eq_true_eq]
  constructor
  · rintro ⟨h1, h2, h3⟩; exact ⟨by omega, h2, h3⟩
  · rintro ⟨h1, h2, h3⟩; exact ⟨by omega, h2, h3⟩
/-- the sign at a place, by what goes on -/
def signG (c : Nat) (g : Nat → Nat → Nat → Bool) : Nat :=
  if c < 128 then 1 else
  if 194 ≤ c ∧ c ≤ 223 ∧ g 1 128 191 = true then 2 else
  let from' := if c = 240 then 144 else if c = 224 ∨ c = 240 then 160 else 128
  let to' := if c = 244 then 143 else if c = 237 then 159 else 191
  if 224 ≤ c ∧ c ≤ 239 ∧ g 1 from' to' = true ∧ g 2 128 191 = true then 3 else
  if 240 ≤ c ∧ c ≤ 244 ∧ g 1 from' to' = true ∧ g 2 128 191 = true ∧ g 3 128 191 = true then 4 else 0
theorem signAt_G (s : ByteArray) (p : Nat) : signAt s p = signG (s.get! p).toNat fun k lo hi => goesOn s (p + k) lo hi := by
  unfold signAt signW signG
  simp only [goesOn_iff s p 1 _ _ (by decide), goesOn_iff s p 2 _ _ (by decide), goesOn_iff s p 3 _ _ (by decide)]

set_option maxRecDepth 100000 in
/-- two bytes -/
theorem sign_two (s : ByteArray) (p : Nat) (h : p < s.size) (hs : s.size ≤ 9223372036854775800) (c : Int) (hc : ((s[p]'h).toNat : Int) = c) (h1 : 194 ≤ c) (h2 : c ≤ 223) (m : Bool) (w : World)
    (hm : ∀ w, Calls Tryz.prog 164 #[.string s, .int .i64 ((p : Int) + 1), .int .i64 128, .int .i64 191] w fun e w' => e = .returned (.bool m) ∧ w = w') :
    Calls Tryz.prog 150 #[.string s, .int .i64 (p : Int)] w fun e w' => e = .returned (.int .i64 (if m = true then 2 else 0)) ∧ w = w' := by
  have HM := Lib.hid hm
  clear hm
  go_enter Tryz.func150, Tryz.ntmps150
  go_wp2_with (first | (go_at_call 164; refine (HM.out _).mono ?_; rintro e w' ⟨rfl, rfl⟩))
  all_goals go_ret
  all_goals exact ⟨rfl, rfl⟩

set_option maxHeartbeats 1600000 in
set_option maxRecDepth 100000 in
/-- three bytes -/
theorem sign_three (s : ByteArray) (p : Nat) (h : p < s.size) (hs : s.size ≤ 9223372036854775800) (c lo hi : Int) (hc : ((s[p]'h).toNat : Int) = c)
    (hcl : (c = 224 ∧ lo = 160 ∧ hi = 191) ∨ (c = 237 ∧ lo = 128 ∧ hi = 159) ∨ (224 < c ∧ c ≤ 239 ∧ c ≠ 237 ∧ lo = 128 ∧ hi = 191)) (m1 m2 : Bool) (r : Int) (hr : (if m1 && m2 then (3 : Int) else 0) = r) (w : World)
    (hm1 : ∀ w, Calls Tryz.prog 164 #[.string s, .int .i64 ((p : Int) + 1), .int .i64 lo, .int .i64 hi] w fun e w' => e = .returned (.bool m1) ∧ w = w')
    (hm2 : ∀ w, Calls Tryz.prog 164 #[.string s, .int .i64 ((p : Int) + 2), .int .i64 128, .int .i64 191] w fun e w' => e = .returned (.bool m2) ∧ w = w') :
    Calls Tryz.prog 150 #[.string s, .int .i64 (p : Int)] w fun e w' => e = .returned (.int .i64 r) ∧ w = w' := by
  have HM1 := Lib.hid hm1
  have HM2 := Lib.hid hm2
  clear hm1 hm2
  rcases hcl with ⟨rfl, rfl, rfl⟩ | ⟨rfl, rfl, rfl⟩ | ⟨h1, h2, h3, rfl, rfl⟩
  case' inr.inr =>
    have h4 : (c == 237) = false := by rw [beq_eq_false_iff_ne]; exact h3
    have h5 : (c == 224) = false := by rw [beq_eq_false_iff_ne]; omega
    have h6 : (c == 240) = false := by rw [beq_eq_false_iff_ne]; omega
    have h7 : (c == 244) = false := by rw [beq_eq_false_iff_ne]; omega
    have h8 : 194 ≤ c := by omega
    have h9 : ¬ c ≤ 223 := by omega
    have h10 : ¬ c < 128 := by omega
    have h11 : 224 ≤ c := by omega
    have h12 : ¬ 240 ≤ c := by omega
    clear h3 h1
  all_goals
    rcases m1 with _ | _
    · obtain rfl : r = 0 := hr.symm
      go_enter Tryz.func150, Tryz.ntmps150
      go_wp2_with (first | (go_at_call 164; fail))
      go_at_call 164
      refine (HM1.out _).mono ?_
      rintro e w' ⟨rfl, rfl⟩
      go_wp2
      go_ret
      exact ⟨rfl, rfl⟩
    · rcases m2 with _ | _
      case' false => obtain rfl : r = 0 := hr.symm
      case' true => obtain rfl : r = 3 := hr.symm
      all_goals
        go_enter Tryz.func150, Tryz.ntmps150
        go_wp2_with (first | (go_at_call 164; fail))
        go_at_call 164
        refine (HM1.out _).mono ?_
        rintro e w' ⟨rfl, rfl⟩
        go_wp2_with (first | (go_at_call 164; fail))
        go_at_call 164
        refine (HM2.out _).mono ?_
        rintro e w' ⟨rfl, rfl⟩
        go_wp2
        go_ret
        exact ⟨rfl, rfl⟩
set_option maxHeartbeats 3200000 in
set_option maxRecDepth 100000 in
/-- four bytes -/
theorem sign_four (s : ByteArray) (p : Nat) (h : p < s.size) (hs : s.size ≤ 9223372036854775800) (c lo hi : Int) (hc : ((s[p]'h).toNat : Int) = c)
    (hcl : (c = 240 ∧ lo = 144 ∧ hi = 191) ∨ (c = 244 ∧ lo = 128 ∧ hi = 143) ∨ (240 < c ∧ c < 244 ∧ lo = 128 ∧ hi = 191)) (m1 m2 m3 : Bool) (r : Int) (hr : (if m1 && m2 && m3 then (4 : Int) else 0) = r) (w : World)
    (hm1 : ∀ w, Calls Tryz.prog 164 #[.string s, .int .i64 ((p : Int) + 1), .int .i64 lo, .int .i64 hi] w fun e w' => e = .returned (.bool m1) ∧ w = w')
    (hm2 : ∀ w, Calls Tryz.prog 164 #[.string s, .int .i64 ((p : Int) + 2), .int .i64 128, .int .i64 191] w fun e w' => e = .returned (.bool m2) ∧ w = w')
    (hm3 : ∀ w, Calls Tryz.prog 164 #[.string s, .int .i64 ((p : Int) + 3), .int .i64 128, .int .i64 191] w fun e w' => e = .returned (.bool m3) ∧ w = w') :
    Calls Tryz.prog 150 #[.string s, .int .i64 (p : Int)] w fun e w' => e = .returned (.int .i64 r) ∧ w = w' := by
  have HM1 := Lib.hid hm1
  have HM2 := Lib.hid hm2
  have HM3 := Lib.hid hm3
  clear hm1 hm2 hm3
  rcases hcl with ⟨rfl, rfl, rfl⟩ | ⟨rfl, rfl, rfl⟩ | ⟨h1, h2, rfl, rfl⟩
  case' inr.inr =>
    have h4 : (c == 237) = false := by rw [beq_eq_false_iff_ne]; omega
    have h5 : (c == 224) = false := by rw [beq_eq_false_iff_ne]; omega
    have h6 : (c == 240) = false := by rw [beq_eq_false_iff_ne]; omega
    have h7 : (c == 244) = false := by rw [beq_eq_false_iff_ne]; omega
    have h8 : 194 ≤ c := by omega
    have h9 : ¬ c ≤ 223 := by omega
    have h10 : ¬ c < 128 := by omega
    have h11 : 224 ≤ c := by omega
    have h12 : 240 ≤ c := by omega
    have h13 : ¬ c ≤ 239 := by omega
    have h14 : c ≤ 244 := by omega
    clear h1 h2
  all_goals
    rcases m1 with _ | _
    · obtain rfl : r = 0 := hr.symm
      go_enter Tryz.func150, Tryz.ntmps150
      go_wp2_with (first | (go_at_call 164; fail))
      go_at_call 164
      refine (HM1.out _).mono ?_
      rintro e w' ⟨rfl, rfl⟩
      go_wp2
      go_ret
      exact ⟨rfl, rfl⟩
    · rcases m2 with _ | _
      · obtain rfl : r = 0 := hr.symm
        go_enter Tryz.func150, Tryz.ntmps150
        go_wp2_with (first | (go_at_call 164; fail))
        go_at_call 164
        refine (HM1.out _).mono ?_
        rintro e w' ⟨rfl, rfl⟩
        go_wp2_with (first | (go_at_call 164; fail))
        go_at_call 164
        refine (HM2.out _).mono ?_
        rintro e w' ⟨rfl, rfl⟩
        go_wp2
        go_ret
        exact ⟨rfl, rfl⟩
      · rcases m3 with _ | _
        case' false => obtain rfl : r = 0 := hr.symm
        case' true => obtain rfl : r = 4 := hr.symm
        all_goals
          go_enter Tryz.func150, Tryz.ntmps150
          go_wp2_with (first | (go_at_call 164; fail))
          go_at_call 164
          refine (HM1.out _).mono ?_
          rintro e w' ⟨rfl, rfl⟩
          go_wp2_with (first | (go_at_call 164; fail))
          go_at_call 164
          refine (HM2.out _).mono ?_
          rintro e w' ⟨rfl, rfl⟩
          go_wp2_with (first | (go_at_call 164; fail))
          go_at_call 164
          refine (HM3.out _).mono ?_
          rintro e w' ⟨rfl, rfl⟩
          go_wp2
          go_ret
          exact ⟨rfl, rfl⟩
end Go.Proofs.YtkobkeopajohiaaGreatDoor
namespace Go.Proofs.YtkobkeopajohiaaGreatDoor
open Go.RowKit Go.Lib

set_option maxRecDepth 100000 in
theorem sign_low (s : ByteArray) (p : Nat) (h : p < s.size) (h1 : ((s[p]'h).toNat : Int) < 128) (w : World) :
    Calls Tryz.prog 150 #[.string s, .int .i64 (p : Int)] w fun e w' => e = .returned (.int .i64 1) ∧ w = w' := by
  go_enter Tryz.func150, Tryz.ntmps150
  go_wp2
  go_ret
  exact ⟨rfl, rfl⟩
set_option maxHeartbeats 1600000 in
set_option maxRecDepth 100000 in
theorem sign_none (s : ByteArray) (p : Nat) (h : p < s.size) (c : Int) (hc : ((s[p]'h).toNat : Int) = c) (hcl : (128 ≤ c ∧ c < 194) ∨ (244 < c ∧ c ≤ 255)) (w : World) :
    Calls Tryz.prog 150 #[.string s, .int .i64 (p : Int)] w fun e w' => e = .returned (.int .i64 0) ∧ w = w' := by
  rcases hcl with ⟨h1, h2⟩ | ⟨h1, h2⟩
  · have h4 : (c == 237) = false := by rw [beq_eq_false_iff_ne]; omega
    have h5 : (c == 224) = false := by rw [beq_eq_false_iff_ne]; omega
    have h6 : (c == 240) = false := by rw [beq_eq_false_iff_ne]; omega
    have h7 : (c == 244) = false := by rw [beq_eq_false_iff_ne]; omega
    have h8 : ¬ 194 ≤ c := by omega
    have h10 : ¬ c < 128 := by omega
    have h11 : ¬ 224 ≤ c := by omega
    have h12 : ¬ 240 ≤ c := by omega
    clear h1 h2
    go_enter Tryz.func150, Tryz.ntmps150
    go_wp2
    go_ret
    exact ⟨rfl, rfl⟩
  · have h4 : (c == 237) = false := by rw [beq_eq_false_iff_ne]; omega
    have h5 : (c == 224) = false := by rw [beq_eq_false_iff_ne]; omega
    have h6 : (c == 240) = false := by rw [beq_eq_false_iff_ne]; omega
    have h7 : (c == 244) = false := by rw [beq_eq_false_iff_ne]; omega
    have h8 : 194 ≤ c := by omega
    have h9 : ¬ c ≤ 223 := by omega
    have h10 : ¬ c < 128 := by omega
    have h11 : 224 ≤ c := by omega
    have h12 : 240 ≤ c := by omega
    have h13 : ¬ c ≤ 239 := by omega
    have h14 : ¬ c ≤ 244 := by omega
    clear h1
    go_enter Tryz.func150, Tryz.ntmps150
    go_wp2
    go_ret
    exact ⟨rfl, rfl⟩
theorem refSign_any (s : ByteArray) (p : Nat) (h : p < s.size) (hs : s.size ≤ 9223372036854775800) (w : World) :
    Calls Tryz.prog 150 #[.string s, .int .i64 (p : Int)] w fun e w' => e = .returned (.int .i64 (signAt s p : Int)) ∧ w = w' := by
  rw [signAt_G, get_at s p h]
  have m1 : ∀ (lo hi : Nat) w, Calls Tryz.prog 164 #[.string s, .int .i64 ((p : Int) + 1), .int .i64 (lo : Int), .int .i64 (hi : Int)] w fun e w' => e = .returned (.bool (goesOn s (p + 1) lo hi)) ∧ w = w' := fun lo hi w => more_any s (p + 1) lo hi w
  have m2 : ∀ w, Calls Tryz.prog 164 #[.string s, .int .i64 ((p : Int) + 2), .int .i64 128, .int .i64 191] w fun e w' => e = .returned (.bool (goesOn s (p + 2) 128 191)) ∧ w = w' := fun w => more_any s (p + 2) 128 191 w
  have m3 : ∀ w, Calls Tryz.prog 164 #[.string s, .int .i64 ((p : Int) + 3), .int .i64 128, .int .i64 191] w fun e w' => e = .returned (.bool (goesOn s (p + 3) 128 191)) ∧ w = w' := fun w => more_any s (p + 3) 128 191 w
  have hlt := (s[p]'h).toNat_lt
  obtain ⟨c, hc⟩ : ∃ c, (s[p]'h).toNat = c := ⟨_, rfl⟩
  have hci : ((s[p]'h).toNat : Int) = (c : Int) := by rw [hc]
  rw [hc] at hlt ⊢
  by_cases a0 : c < 128
  · have e : signG c (fun k lo hi => goesOn s (p + k) lo hi) = 1 := by unfold signG; rw [if_pos a0]
    rw [e]
    exact sign_low s p h (by omega) w
  by_cases a1 : 194 ≤ c ∧ c ≤ 223
  · have key := sign_two s p h hs c hci (by omega) (by omega) _ w (m1 128 191)
    have e : signG c (fun k lo hi => goesOn s (p + k) lo hi) = if goesOn s (p + 1) 128 191 = true then 2 else 0 := by
      unfold signG
      rw [if_neg a0]
      by_cases g : goesOn s (p + 1) 128 191 = true
      · rw [if_pos ⟨a1.1, a1.2, g⟩, if_pos g]
      · rw [if_neg (fun x => g x.2.2), if_neg g, if_neg (by omega), if_neg (by omega)]
    rw [e]
    refine key.mono fun e w' ⟨h1, h2⟩ => ⟨?_, h2⟩
    rw [h1]
    split <;> rfl
  by_cases a2 : 224 ≤ c ∧ c ≤ 239
  · obtain ⟨lo, hi, hcl, hl1, hl2⟩ : ∃ lo hi : Nat, (((c : Int) = 224 ∧ (lo : Int) = 160 ∧ (hi : Int) = 191) ∨ ((c : Int) = 237 ∧ (lo : Int) = 128 ∧ (hi : Int) = 159) ∨ (224 < (c : Int) ∧ (c : Int) ≤ 239 ∧ (c : Int) ≠ 237 ∧ (lo : Int) = 128 ∧ (hi : Int) = 191)) ∧
        (if c = 240 then 144 else if c = 224 ∨ c = 240 then 160 else 128) = lo ∧ (if c = 244 then 143 else if c = 237 then 159 else 191) = hi := by
      by_cases b1 : c = 224
      · subst b1; exact ⟨160, 191, .inl ⟨rfl, rfl, rfl⟩, rfl, rfl⟩
      by_cases b2 : c = 237
      · subst b2; exact ⟨128, 159, .inr (.inl ⟨rfl, rfl, rfl⟩), rfl, rfl⟩
      · exact ⟨128, 191, .inr (.inr ⟨by omega, by omega, by omega, rfl, rfl⟩), by rw [if_neg (by omega), if_neg (by omega)], by rw [if_neg (by omega), if_neg b2]⟩
    have key := sign_three s p h hs c lo hi hci hcl _ _ _ rfl w (m1 lo hi) m2
    have e : signG c (fun k lo hi => goesOn s (p + k) lo hi) = if (goesOn s (p + 1) lo hi && goesOn s (p + 2) 128 191) then 3 else 0 := by
      unfold signG
      rw [if_neg a0, if_neg (by omega)]
      simp only [hl1, hl2]
      by_cases g : goesOn s (p + 1) lo hi = true ∧ goesOn s (p + 2) 128 191 = true
      · rw [if_pos ⟨a2.1, a2.2, g.1, g.2⟩, if_pos (by rw [g.1, g.2]; rfl)]
      · rw [if_neg (fun x => g ⟨x.2.2.1, x.2.2.2⟩), if_neg (by omega), if_neg (by rw [Bool.and_eq_true]; exact g)]
    rw [e]
    refine key.mono fun e w' ⟨h1, h2⟩ => ⟨?_, h2⟩
    rw [h1]
    split <;> rfl
  by_cases a3 : 240 ≤ c ∧ c ≤ 244
  · obtain ⟨lo, hi, hcl, hl1, hl2⟩ : ∃ lo hi : Nat, (((c : Int) = 240 ∧ (lo : Int) = 144 ∧ (hi : Int) = 191) ∨ ((c : Int) = 244 ∧ (lo : Int) = 128 ∧ (hi : Int) = 143) ∨ (240 < (c : Int) ∧ (c : Int) < 244 ∧ (lo : Int) = 128 ∧ (hi : Int) = 191)) ∧
        (if c = 240 then 144 else if c = 224 ∨ c = 240 then 160 else 128) = lo ∧ (if c = 244 then 143 else if c = 237 then 159 else 191) = hi := by
      by_cases b1 : c = 240
      · subst b1; exact ⟨144, 191, .inl ⟨rfl, rfl, rfl⟩, rfl, rfl⟩
      by_cases b2 : c = 244
      · subst b2; exact ⟨128, 143, .inr (.inl ⟨rfl, rfl, rfl⟩), rfl, rfl⟩
      · exact ⟨128, 191, .inr (.inr ⟨by omega, by omega, rfl, rfl⟩), by rw [if_neg (by omega), if_neg (by omega)], by rw [if_neg (by omega), if_neg (by omega)]⟩
    have key := sign_four s p h hs c lo hi hci hcl _ _ _ _ rfl w (m1 lo hi) m2 m3
    have e : signG c (fun k lo hi => goesOn s (p + k) lo hi) = if (goesOn s (p + 1) lo hi && goesOn s (p + 2) 128 191 && goesOn s (p + 3) 128 191) then 4 else 0 := by
      unfold signG
      rw [if_neg a0, if_neg (by omega)]
      simp only [hl1, hl2]
      rw [if_neg (by omega)]
      by_cases g : goesOn s (p + 1) lo hi = true ∧ goesOn s (p + 2) 128 191 = true ∧ goesOn s (p + 3) 128 191 = true
      · rw [if_pos ⟨a3.1, a3.2, g.1, g.2.1, g.2.2⟩, if_pos (by rw [g.1, g.2.1, g.2.2]; rfl)]
      · rw [if_neg (fun x => g ⟨x.2.2.1, x.2.2.2.1, x.2.2.2.2⟩), if_neg (by rw [Bool.and_eq_true, Bool.and_eq_true, and_assoc]; exact g)]
    rw [e]
    refine key.mono fun e w' ⟨h1, h2⟩ => ⟨?_, h2⟩
    rw [h1]
    split <;> rfl
  · have e : signG c (fun k lo hi => goesOn s (p + k) lo hi) = 0 := by
      unfold signG
      rw [if_neg a0, if_neg (by omega), if_neg (by omega), if_neg (by omega)]
    rw [e]
    exact sign_none s p h c hci (by omega) w

set_option maxHeartbeats 1600000 in
set_option maxRecDepth 100000 in
theorem refSigns_any (s : ByteArray) (w : World) (hs : s.size ≤ 9223372036854775800) (R : Int × Bool) (hR : signsFrom s s.size 0 0 = R) :
    Calls Tryz.prog 137 #[.string s] w fun e w' => e = .returned (.tuple #[.int .i64 R.1, .bool R.2]) ∧ w = w' := by
  have HR := Lib.hid hR
  have HS := Lib.hid fun p h w => refSign_any s p h hs w
  clear hR
  go_enter Tryz.func137, Tryz.ntmps137
  go_wp2
  go_loopw [4, 5] (fun n at' wr => ∃ (pos b : Nat) (acc : Int), n = .int .i64 acc ∧ at' = .int .i64 (pos : Int) ∧ Hid (signsFrom s b pos acc = R) ∧ s.size ≤ pos + b ∧ pos ≤ s.size + 4 ∧ 0 ≤ acc ∧ acc ≤ pos ∧ w = wr)
    (fun _ at' _ => s.size - (RowKit.intOf at').toNat)
  case atStart => exact ⟨0, s.size, 0, rfl, rfl, Lib.hid HR.out, by omega, by omega, by omega, by omega, rfl⟩
  case round =>
    obtain ⟨pos, b, acc, rfl, rfl, hinv, hb, hps, ha0, ha1, rfl⟩ := hrel
    by_cases hp : pos < s.size
    · have hsg := signAt_eq s pos
      have hwd := width_pos s pos hp
      obtain ⟨f, rfl⟩ : ∃ f, b = f + 1 := ⟨b - 1, by omega⟩
      have hst : (if badAt s pos then ((0, false) : Int × Bool) else signsFrom s f (pos + (Utf8.decode s pos).2) (acc + 1)) = R := by have := hinv.out; unfold signsFrom at this; rw [if_pos hp] at this; exact this
      have HG := Lib.hid fun w => HS.out pos hp w
      have hw4 : signAt s pos ≤ 4 := by
        rw [signAt_G]; unfold signG
        simp only
        repeat' split
        all_goals omega
      by_cases hbad : badAt s pos = true
      · rw [if_pos hbad] at hsg hst
        rw [hsg] at HG
        have HRR : Hid (R = (0, false)) := Lib.hid hst.symm
        clear hsg hst hbad hwd hw4
        go_wp2_with (first | (go_at_call 150; fail))
        go_at_call 150
        refine (HG.out _).mono ?_
        rintro e w' ⟨rfl, rfl⟩
        go_wp2
        go_ret2
        exact ⟨by rw [HRR.out]; rfl, rfl⟩
      · rw [if_neg hbad] at hsg hst
        have hd1 : 1 ≤ signAt s pos := by rw [hsg]; exact hwd
        rw [← hsg] at hst
        generalize signAt s pos = d at *
        have HRR := Lib.hid hst
        have hd0 : ((d : Int) == 0) = false := by rw [beq_eq_false_iff_ne]; omega
        clear hsg hst hbad hwd
        go_wp2_with (first | (go_at_call 150; fail))
        go_at_call 150
        refine (HG.out _).mono ?_
        rintro e w' ⟨rfl, rfl⟩
        go_wp2
        go_roundw
        case rel => exact ⟨pos + d, f, acc + 1, rfl, by simp, HRR, by omega, by omega, by omega, by omega, trivial⟩
        case measure => simp [RowKit.intOf]; omega
    · have HRR : Hid (R = (acc, true)) := Lib.hid (by
        rw [← hinv.out]
        cases b with
        | zero => rfl
        | succ b => unfold signsFrom; rw [if_neg hp])
      go_wp2
      go_ret2
      exact ⟨by rw [HRR.out]; rfl, rfl⟩
end Go.Proofs.YtkobkeopajohiaaGreatDoor
namespace Go.Proofs.YtkobkeopajohiaaGreatDoor
open Go.RowKit Go.Lib

set_option maxHeartbeats 1600000 in
set_option maxRecDepth 100000 in
theorem refOf_num (n : Int) (s : ByteArray) (w : World) (h : -999999999999999999 ≤ n ∧ n ≤ 999999999999999999) :
    Calls Tryz.prog 80 #[.agg #[.int .i64 1, .int .i64 n, .string s]] w fun e w' => e = .returned (V.num n).tell ∧ Below w.heap.size w w' := by
  obtain ⟨h1, h2⟩ := h
  simp only [V.tell]
  go_enter Tryz.func80, Tryz.ntmps80
  go_wp2
  go_returns
  exact ⟨by rfl, by go_grown⟩
set_option maxHeartbeats 1600000 in
set_option maxRecDepth 100000 in
theorem refOf_num_no (n : Int) (s : ByteArray) (w : World) (h : n < -999999999999999999 ∨ 999999999999999999 < n) :
    Calls Tryz.prog 80 #[.agg #[.int .i64 1, .int .i64 n, .string s]] w fun e w' => e = .returned V.blank.tell ∧ Below w.heap.size w w' := by
  simp only [V.tell]
  rcases h with h | h
  all_goals
    go_enter Tryz.func80, Tryz.ntmps80
    go_wp2
    go_returns
    exact ⟨by rfl, by go_grown⟩
set_option maxHeartbeats 1600000 in
set_option maxRecDepth 100000 in
theorem refOf_bool (n : Int) (s : ByteArray) (w : World) (b : Bool) (h : (n == 1) = b) :
    Calls Tryz.prog 80 #[.agg #[.int .i64 3, .int .i64 n, .string s]] w fun e w' => e = .returned (V.bool b).tell ∧ Below w.heap.size w w' := by
  cases b <;> simp only [V.tell, if_true, Bool.false_eq_true, if_false]
  all_goals
    go_enter Tryz.func80, Tryz.ntmps80
    go_wp2
    go_returns
    exact ⟨by rfl, by go_grown⟩
set_option maxHeartbeats 1600000 in
set_option maxRecDepth 100000 in
theorem refOf_fail (n : Int) (s : ByteArray) (w : World) (h1 : 1 ≤ n) (h2 : n ≤ 7) :
    Calls Tryz.prog 80 #[.agg #[.int .i64 4, .int .i64 n, .string s]] w fun e w' => e = .returned (V.fail n).tell ∧ Below w.heap.size w w' := by
  simp only [V.tell]
  go_enter Tryz.func80, Tryz.ntmps80
  go_wp2
  go_returns
  exact ⟨by rfl, by go_grown⟩
set_option maxHeartbeats 1600000 in
set_option maxRecDepth 100000 in
theorem refOf_fail_no (n : Int) (s : ByteArray) (w : World) (h : n < 1 ∨ 7 < n) :
    Calls Tryz.prog 80 #[.agg #[.int .i64 4, .int .i64 n, .string s]] w fun e w' => e = .returned V.blank.tell ∧ Below w.heap.size w w' := by
  simp only [V.tell]
  rcases h with h | h
  all_goals
    go_enter Tryz.func80, Tryz.ntmps80
    go_wp2
    go_returns
    exact ⟨by rfl, by go_grown⟩
set_option maxHeartbeats 1600000 in
set_option maxRecDepth 100000 in
theorem refOf_other (k n : Int) (s : ByteArray) (w : World) (h1 : (k == 1) = false) (h2 : (k == 2) = false) (h3 : (k == 3) = false) (h4 : (k == 4) = false) :
    Calls Tryz.prog 80 #[.agg #[.int .i64 k, .int .i64 n, .string s]] w fun e w' => e = .returned V.blank.tell ∧ Below w.heap.size w w' := by
  simp only [V.tell]
  go_enter Tryz.func80, Tryz.ntmps80
  go_wp2
  go_returns
  exact ⟨by rfl, by go_grown⟩
set_option maxHeartbeats 1600000 in
set_option maxRecDepth 100000 in
theorem refOf_text (m n : Int) (ok : Bool) (s : ByteArray) (w : World) (hs : ∀ w, Calls Tryz.prog 137 #[.string s] w fun e w' => e = .returned (.tuple #[.int .i64 m, .bool ok]) ∧ w = w') (v : V) (hv : (if ok = true ∧ s.size ≤ 2000 then V.text s else V.blank) = v) :
    Calls Tryz.prog 80 #[.agg #[.int .i64 2, .int .i64 n, .string s]] w fun e w' => e = .returned v.tell ∧ Below w.heap.size w w' := by
  have HS := Lib.hid hs
  clear hs
  by_cases h : ok = true ∧ s.size ≤ 2000
  · rw [if_pos h] at hv
    subst hv
    obtain ⟨rfl, hz⟩ := h
    simp only [V.tell]
    go_enter Tryz.func80, Tryz.ntmps80
    go_wp2_with (first | (go_at_call 137; fail))
    go_at_call 137
    refine (HS.out _).mono ?_
    rintro e w' ⟨rfl, rfl⟩
    go_wp2
    go_returns
    exact ⟨by rfl, by go_grown⟩
  · rw [if_neg h] at hv
    subst hv
    have key : ok = false ∨ (ok = true ∧ 2000 < s.size) := by
      cases ok
      · exact .inl rfl
      · exact .inr ⟨rfl, by have : ¬ s.size ≤ 2000 := fun h2 => h ⟨rfl, h2⟩; omega⟩
    clear h
    simp only [V.tell]
    rcases key with rfl | ⟨rfl, hz⟩
    all_goals
      go_enter Tryz.func80, Tryz.ntmps80
      go_wp2_with (first | (go_at_call 137; fail))
      go_at_call 137
      refine (HS.out _).mono ?_
      rintro e w' ⟨rfl, rfl⟩
      go_wp2
      go_returns
      exact ⟨by rfl, by go_grown⟩
theorem refOf_any (p : P) (w : World) (hs : p.s.size ≤ 9223372036854775800) :
    Calls Tryz.prog 80 #[p.val] w fun e w' => e = .returned p.of.tell ∧ Below w.heap.size w w' := by
  obtain ⟨k, n, s⟩ := p
  unfold P.of P.val
  simp only at hs ⊢
  by_cases h1 : k = 1
  · subst h1
    rw [if_pos rfl]
    by_cases h : -999999999999999999 ≤ n ∧ n ≤ 999999999999999999
    · rw [if_pos h]; exact refOf_num n s w h
    · rw [if_neg h]; exact refOf_num_no n s w (by omega)
  rw [if_neg h1]
  by_cases h2 : k = 2
  · subst h2
    rw [if_pos rfl]
    exact refOf_text _ n _ s w (fun w => refSigns_any s w hs _ rfl) _ rfl
  rw [if_neg h2]
  by_cases h3 : k = 3
  · subst h3
    rw [if_pos rfl]
    exact refOf_bool n s w _ rfl
  rw [if_neg h3]
  by_cases h4 : k = 4
  · subst h4
    rw [if_pos rfl]
    by_cases h : 1 ≤ n ∧ n ≤ 7
    · rw [if_pos h]; exact refOf_fail n s w h.1 h.2
    · rw [if_neg h]; exact refOf_fail_no n s w (by omega)
  rw [if_neg h4]
  exact refOf_other k n s w (by simpa using h1) (by simpa using h2) (by simpa using h3) (by simpa using h4)
end Go.Proofs.YtkobkeopajohiaaGreatDoor
namespace Go.Proofs.YtkobkeopajohiaaGreatDoor
open Go.RowKit Go.Lib

theorem tell_form (v : V) : ∃ a b s, v.tell = .agg #[.int .i64 a, .int .i64 b, .string s] := by
  cases v <;> exact ⟨_, _, _, rfl⟩
def outC (w : World) (a : Addr) : Value := (w.cell? a).getD undef
theorem outC_of {w : World} {a : Addr} {v : Value} (h : w.cell? a = some v) : w.cell? a = some (outC w a) := by unfold outC; rw [h]; rfl
/-- what the one region of Made reads and writes: the plain data's cells; the result's are there -/
abbrev MadeS (w : World) (h : Nat) (k n : Int) (s : ByteArray) (w' : World) : Prop :=
  w'.cell? ⟨h, 0, none⟩ = some (.int .i64 k) ∧ w'.cell? ⟨h, 1, none⟩ = some (.int .i64 n) ∧ w'.cell? ⟨h, 2, none⟩ = some (.string s) ∧
  w'.cell? ⟨h + 1, 0, none⟩ = some (outC w' ⟨h + 1, 0, none⟩) ∧ w'.cell? ⟨h + 1, 1, none⟩ = some (outC w' ⟨h + 1, 1, none⟩) ∧ w'.cell? ⟨h + 1, 2, none⟩ = some (outC w' ⟨h + 1, 2, none⟩) ∧
  w'.frozen? ⟨h + 1, 0, none⟩ = false ∧ w'.frozen? ⟨h + 1, 1, none⟩ = false ∧ w'.frozen? ⟨h + 1, 2, none⟩ = false ∧
  Hid (h + 1 < w'.heap.size) ∧ Hid (Below w.heap.size w w')
theorem MadeS.below {w : World} {h : Nat} {k n : Int} {s : ByteArray} {w1 w2 : World} (hS : MadeS w h k n s w1) (hb : Below w1.heap.size w1 w2) : MadeS w h k n s w2 := by
  obtain ⟨h0, h1, h2, h3, h4, h5, h6, h7, h8, h9, h10⟩ := hS
  have l0 : h < w1.heap.size := by have := h9.out; omega
  have l1 : h + 1 < w1.heap.size := h9.out
  exact ⟨(hb.cell l0).trans h0, (hb.cell l0).trans h1, (hb.cell l0).trans h2, outC_of ((hb.cell l1).trans h3), outC_of ((hb.cell l1).trans h4), outC_of ((hb.cell l1).trans h5),
    (hb.frozen l1).trans h6, (hb.frozen l1).trans h7, (hb.frozen l1).trans h8, Lib.hid (Nat.lt_of_lt_of_le l1 hb.size), Lib.hid (h10.out.trans (hb.mono h10.out.size))⟩
theorem MadeS.drew {w : World} {h : Nat} {k n : Int} {s : ByteArray} {w1 : World} (hS : MadeS w h k n s w1) : MadeS w h k n s w1.drew := hS.below ((Below.refl _ _).drew)
theorem MadeS.set {w : World} {h : Nat} {k n : Int} {s : ByteArray} {w1 : World} (hh : h = w.heap.size) (hS : MadeS w h k n s w1) (i : Nat) (v : Value) : MadeS w h k n s (w1.setCell ⟨h + 1, i, none⟩ v) := by
  obtain ⟨h0, h1, h2, h3, h4, h5, h6, h7, h8, h9, h10⟩ := hS
  have hc : ∀ j u, w1.cell? ⟨h + 1, j, none⟩ = some u → ∃ u', (w1.setCell ⟨h + 1, i, none⟩ v).cell? ⟨h + 1, j, none⟩ = some u' := fun j u hu => by
    by_cases e : j = i
    · subst e; exact ⟨_, World.cell?_setCell_same _ _ _ hu⟩
    · exact ⟨u, by rw [World.cell?_setCell_other _ _ _ _ (by simp)]; exact hu⟩
  have ho : ∀ j, (w1.setCell ⟨h + 1, i, none⟩ v).cell? ⟨h, j, none⟩ = w1.cell? ⟨h, j, none⟩ := fun j => World.cell?_setCell_other _ _ _ _ (by simp)
  obtain ⟨_, e3⟩ := hc _ _ h3
  obtain ⟨_, e4⟩ := hc _ _ h4
  obtain ⟨_, e5⟩ := hc _ _ h5
  exact ⟨(ho 0).trans h0, (ho 1).trans h1, (ho 2).trans h2, outC_of e3, outC_of e4, outC_of e5, by rw [World.frozen?_setCell]; exact h6, by rw [World.frozen?_setCell]; exact h7, by rw [World.frozen?_setCell]; exact h8,
    Lib.hid (by have := h9.out; simpa [World.setCell] using this), Lib.hid (h10.out.setCell (by show w.heap.size ≤ h + 1; omega) v)⟩
set_option maxHeartbeats 3200000 in
set_option maxRecDepth 100000 in
theorem lawMade_any (p : P) (w : World) (hT : Lib.Utf8Tabs 4 5 w) (h7 : 5 < w.heap.size) (hs : p.s.size ≤ 9223372036854775800) :
    Calls Tryz.prog 17 #[p.val] w fun e w' => e = .returned (.tuple #[p.of.val, p.of.tell]) ∧ Below w.heap.size w w' := by
  have HO := Lib.hid fun w hT h7 => of_any p w hT h7 (by omega)
  have HR := Lib.hid fun w => refOf_any p w hs
  have HT := Lib.hid hT
  clear hT
  generalize p.of = v at *
  obtain ⟨ya, yb, yc, hy⟩ := tell_form v
  rw [hy] at HR ⊢
  clear hy
  obtain ⟨k, n, s⟩ := p
  simp only [P.val] at HO HR ⊢
  rw [V.val_eq] at HO
  rw [V.val_eq]
  generalize v.ty = t at *
  generalize v.raw = x at *
  clear hs
  have hB : w.heap.size < (w.alloc (.cells #[.int .i64 k, .int .i64 n, .string s] 41)).heap.size := by simp
  go_enter Tryz.func17, Tryz.ntmps17
  go_wp2
  have hS0 : MadeS w w.heap.size k n s ((w.alloc (.cells #[.int .i64 k, .int .i64 n, .string s] 41)).alloc (.cells #[.int .i64 0, .int .i64 0, .string { data := #[] }] 28)) := by
    have a1 : ∀ j, ((w.alloc (.cells #[.int .i64 k, .int .i64 n, .string s] 41)).alloc (.cells #[.int .i64 0, .int .i64 0, .string { data := #[] }] 28)).cell? ⟨w.heap.size, j, none⟩ = (#[Value.int .i64 k, .int .i64 n, .string s])[j]? := fun j => by
      rw [World.cell?_alloc_past _ _ _ (by simp), World.cell?_alloc_at _ _ _ _ rfl]
    have a2 : ∀ j, ((w.alloc (.cells #[.int .i64 k, .int .i64 n, .string s] 41)).alloc (.cells #[.int .i64 0, .int .i64 0, .string { data := #[] }] 28)).cell? ⟨w.heap.size + 1, j, none⟩ = (#[Value.int .i64 0, .int .i64 0, .string { data := #[] }])[j]? := fun j => by
      rw [World.cell?_alloc_at _ _ _ _ (by simp)]
    exact ⟨a1 0, a1 1, a1 2, outC_of (a2 0), outC_of (a2 1), outC_of (a2 2), by simp, by simp, by simp, Lib.hid (by simp), Lib.hid (((Below.refl _ _).alloc (Nat.le_refl _) _).alloc (by simp) _)⟩
  go_region_held3 (fun w' => w'.cell? ⟨w.heap.size, 0, none⟩ = some (.int .i64 k) ∧ w'.cell? ⟨w.heap.size, 1, none⟩ = some (.int .i64 n) ∧ w'.cell? ⟨w.heap.size, 2, none⟩ = some (.string s) ∧
  w'.cell? ⟨w.heap.size + 1, 0, none⟩ = some (outC w' ⟨w.heap.size + 1, 0, none⟩) ∧ w'.cell? ⟨w.heap.size + 1, 1, none⟩ = some (outC w' ⟨w.heap.size + 1, 1, none⟩) ∧ w'.cell? ⟨w.heap.size + 1, 2, none⟩ = some (outC w' ⟨w.heap.size + 1, 2, none⟩) ∧
  w'.frozen? ⟨w.heap.size + 1, 0, none⟩ = false ∧ w'.frozen? ⟨w.heap.size + 1, 1, none⟩ = false ∧ w'.frozen? ⟨w.heap.size + 1, 2, none⟩ = false ∧
  Hid (w.heap.size + 1 < w'.heap.size) ∧ Hid (Below w.heap.size w w'))
    (first | exact MadeS.drew ‹MadeS w w.heap.size k n s _› | exact MadeS.below ‹MadeS w w.heap.size k n s _› ‹Below _ _ _› | exact MadeS.set rfl (MadeS.set rfl (MadeS.set rfl ‹MadeS w w.heap.size k n s _› 0 _) 1 _) 2 _)
    (first
      | (go_at_call 60; refine (HO.out _ (tabs_below HT.out (‹MadeS w w.heap.size k n s _›).2.2.2.2.2.2.2.2.2.2.out h7) (Nat.lt_of_lt_of_le h7 (‹MadeS w w.heap.size k n s _›).2.2.2.2.2.2.2.2.2.2.out.size)).mono ?_; rintro e w2 ⟨rfl, hb⟩)
      | (go_at_call 80; refine (HR.out _).mono ?_; rintro e w2 ⟨rfl, hb⟩))
  rename_i wa hba hfin
  obtain ⟨_, _, _, h3, h4, h5, _, _, _, _, h10⟩ := (hS0.drew.below hba).below hb
  clear hfin hba hb hS0
  have e0 : (((w2.setCell ⟨w.heap.size + 1, 0, none⟩ (.int .i64 ya)).setCell ⟨w.heap.size + 1, 1, none⟩ (.int .i64 yb)).setCell ⟨w.heap.size + 1, 2, none⟩ (.string yc)).cell? ⟨w.heap.size + 1, 0, none⟩ = some (.int .i64 ya) := by
    rw [World.cell?_setCell_other _ _ _ _ (by simp), World.cell?_setCell_other _ _ _ _ (by simp)]
    exact World.cell?_setCell_same _ _ _ h3
  have e1 : (((w2.setCell ⟨w.heap.size + 1, 0, none⟩ (.int .i64 ya)).setCell ⟨w.heap.size + 1, 1, none⟩ (.int .i64 yb)).setCell ⟨w.heap.size + 1, 2, none⟩ (.string yc)).cell? ⟨w.heap.size + 1, 1, none⟩ = some (.int .i64 yb) := by
    rw [World.cell?_setCell_other _ _ _ _ (by simp)]
    exact World.cell?_setCell_same _ _ _ (by rw [World.cell?_setCell_other _ _ _ _ (by simp)]; exact h4)
  have e2 : (((w2.setCell ⟨w.heap.size + 1, 0, none⟩ (.int .i64 ya)).setCell ⟨w.heap.size + 1, 1, none⟩ (.int .i64 yb)).setCell ⟨w.heap.size + 1, 2, none⟩ (.string yc)).cell? ⟨w.heap.size + 1, 2, none⟩ = some (.string yc) :=
    World.cell?_setCell_same _ _ _ (by rw [World.cell?_setCell_other _ _ _ _ (by simp), World.cell?_setCell_other _ _ _ _ (by simp)]; exact h5)
  have hbf : Below w.heap.size w (((w2.setCell ⟨w.heap.size + 1, 0, none⟩ (.int .i64 ya)).setCell ⟨w.heap.size + 1, 1, none⟩ (.int .i64 yb)).setCell ⟨w.heap.size + 1, 2, none⟩ (.string yc)) :=
    ((h10.out.setCell (by show w.heap.size ≤ w.heap.size + 1; omega) _).setCell (by show w.heap.size ≤ w.heap.size + 1; omega) _).setCell (by show w.heap.size ≤ w.heap.size + 1; omega) _
  clear h3 h4 h5 h10
  generalize (((w2.setCell ⟨w.heap.size + 1, 0, none⟩ (.int .i64 ya)).setCell ⟨w.heap.size + 1, 1, none⟩ (.int .i64 yb)).setCell ⟨w.heap.size + 1, 2, none⟩ (.string yc)) = wf at *
  go_wp2
  refine bodyPost_ret (v := .tuple #[.iface t x, .agg #[.int .i64 ya, .int .i64 yb, .string yc]]) (by simp [results, Tryz.results17, go_sem, e0, e1, e2]) rfl ?_
  exact ⟨rfl, hbf⟩
end Go.Proofs.YtkobkeopajohiaaGreatDoor
namespace Go.Proofs.YtkobkeopajohiaaGreatDoor
open Go.RowKit Go.Lib

def V.kind : V → Int | .num _ => 1 | .text _ => 2 | .bool _ => 3 | .fail _ => 4 | .blank => 0
theorem tell_kind (v : V) : ∃ b s, v.tell = .agg #[.int .i64 v.kind, .int .i64 b, .string s] := by
  cases v <;> exact ⟨_, _, rfl⟩
theorem set_three (w : World) (b : Nat) (x y z : Value) {o0 o1 o2 : Value} (h0 : w.cell? ⟨b, 0, none⟩ = some o0) (h1 : w.cell? ⟨b, 1, none⟩ = some o1) (h2 : w.cell? ⟨b, 2, none⟩ = some o2) :
    (((w.setCell ⟨b, 0, none⟩ x).setCell ⟨b, 1, none⟩ y).setCell ⟨b, 2, none⟩ z).cell? ⟨b, 0, none⟩ = some x ∧ (((w.setCell ⟨b, 0, none⟩ x).setCell ⟨b, 1, none⟩ y).setCell ⟨b, 2, none⟩ z).cell? ⟨b, 1, none⟩ = some y ∧ (((w.setCell ⟨b, 0, none⟩ x).setCell ⟨b, 1, none⟩ y).setCell ⟨b, 2, none⟩ z).cell? ⟨b, 2, none⟩ = some z := by
  refine ⟨?_, ?_, ?_⟩
  · rw [World.cell?_setCell_other _ _ _ _ (by simp), World.cell?_setCell_other _ _ _ _ (by simp)]
    exact World.cell?_setCell_same _ _ _ h0
  · rw [World.cell?_setCell_other _ _ _ _ (by simp)]
    exact World.cell?_setCell_same _ _ _ (by rw [World.cell?_setCell_other _ _ _ _ (by simp)]; exact h1)
  · exact World.cell?_setCell_same _ _ _ (by rw [World.cell?_setCell_other _ _ _ _ (by simp), World.cell?_setCell_other _ _ _ _ (by simp)]; exact h2)
set_option maxRecDepth 100000 in
theorem told_any (v : V) (w : World) :
    Calls Tryz.prog 12 #[v.val] w fun e w' => e = .returned v.tell ∧ Below w.heap.size w w' := by
  have HT := Lib.hid fun w => tell_any v w
  obtain ⟨a, b, s, hy⟩ := tell_form v
  rw [hy] at HT ⊢
  clear hy
  rw [V.val_eq] at HT ⊢
  generalize v.ty = t at *
  generalize v.raw = x at *
  go_enter Tryz.func12, Tryz.ntmps12
  go_wp2_with (first | (go_at_call 37; fail))
  go_at_call 37
  refine (HT.out _).mono ?_
  rintro e w1 ⟨rfl, hb⟩
  have hlt : w.heap.size < w1.heap.size := by have := hb.size; simp at this; omega
  have hc : ∀ j, w1.cell? ⟨w.heap.size, j, none⟩ = (#[Value.int .i64 0, .int .i64 0, .string { data := #[] }])[j]? := fun j => by
    rw [hb.cell (by simp), World.cell?_alloc_at _ _ _ _ rfl]
  have hf : ∀ j, w1.frozen? ⟨w.heap.size, j, none⟩ = false := fun j => by
    rw [hb.frozen (by simp)]; simp
  have hb0 : Below w.heap.size w w1 := ((Below.refl _ _).alloc (Nat.le_refl _) _).trans (hb.mono (by simp))
  clear hb
  go_wp2
  obtain ⟨e0, e1, e2⟩ := set_three w1 w.heap.size (.int .i64 a) (.int .i64 b) (.string s) (hc 0) (hc 1) (hc 2)
  have hsz : (((w1.setCell ⟨w.heap.size, 0, none⟩ (.int .i64 a)).setCell ⟨w.heap.size, 1, none⟩ (.int .i64 b)).setCell ⟨w.heap.size, 2, none⟩ (.string s)).heap.size = w1.heap.size := by simp [World.setCell]
  have hbf : Below w.heap.size w (((w1.setCell ⟨w.heap.size, 0, none⟩ (.int .i64 a)).setCell ⟨w.heap.size, 1, none⟩ (.int .i64 b)).setCell ⟨w.heap.size, 2, none⟩ (.string s)) :=
    ((hb0.setCell (Nat.le_refl _) _).setCell (Nat.le_refl _) _).setCell (Nat.le_refl _) _
  generalize (((w1.setCell ⟨w.heap.size, 0, none⟩ (.int .i64 a)).setCell ⟨w.heap.size, 1, none⟩ (.int .i64 b)).setCell ⟨w.heap.size, 2, none⟩ (.string s)) = wf at *
  have g : ∀ j, (wf.alloc (.cells #[.int .i64 a, .int .i64 b, .string s] 41)).cell? ⟨w.heap.size, j, none⟩ = wf.cell? ⟨w.heap.size, j, none⟩ := fun j => World.cell?_alloc_past _ _ _ (by show w.heap.size < wf.heap.size; omega)
  have g0 := (g 0).trans e0
  have g1 := (g 1).trans e1
  have g2 := (g 2).trans e2
  refine bodyPost_ret (v := .agg #[.int .i64 a, .int .i64 b, .string s]) (by simp [results, Tryz.results12, go_sem, g0, g1, g2]) rfl ?_
  exact ⟨rfl, hbf.alloc (by omega) _⟩
end Go.Proofs.YtkobkeopajohiaaGreatDoor
