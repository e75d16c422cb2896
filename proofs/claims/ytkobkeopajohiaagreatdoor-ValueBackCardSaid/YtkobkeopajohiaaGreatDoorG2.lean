/-
  CONTRACTS of the reference's more and Sign: how many bytes the sign at a place has.
-/
import Derived.Test.YtkobkeopajohiaaGreatDoorU6
namespace Go.Proofs.YtkobkeopajohiaaGreatDoor
open Go.RowKit Go.Lib

/-- a byte that goes on a sign -/
def goesOn (s : ByteArray) (p lo hi : Nat) : Bool := decide (p < s.size) && (decide (lo ≤ (s.get! p).toNat) && decide ((s.get! p).toNat ≤ hi))
theorem get_at (s : ByteArray) (p : Nat) (h : p < s.size) : s.get! p = s[p]'h := by
  simp only [ByteArray.get!]
  rw [getElem!_pos s.data p h]
  rfl
set_option maxRecDepth 100000 in
theorem more_any (s : ByteArray) (p : Nat) (lo hi : Nat) (w : World) :
    Calls Tryz.prog 164 #[.string s, .int .i64 (p : Int), .int .i64 (lo : Int), .int .i64 (hi : Int)] w fun e w' => e = .returned (.bool (goesOn s p lo hi)) ∧ w = w' := by
  by_cases h : p < s.size
  · have hb := (s[p]'h).toNat_lt
    have hb9 : ((s[p]'h).toNat : Int) < 256 := by omega
    have hg : Hid (goesOn s p lo hi = (decide ((lo : Int) ≤ ((s[p]'h).toNat : Int)) && decide (((s[p]'h).toNat : Int) ≤ (hi : Int)))) := Lib.hid (by
      unfold goesOn
      rw [get_at s p h]
      simp [h])
    clear hb
    by_cases h1 : (lo : Int) ≤ ((s[p]'h).toNat : Int)
    · go_enter Tryz.func164, Tryz.ntmps164
      go_wp2
      go_ret
      exact ⟨by rw [hg.out]; simp [h1], rfl⟩
    · go_enter Tryz.func164, Tryz.ntmps164
      go_wp2
      go_ret
      exact ⟨by rw [hg.out]; simp; intro h; omega, rfl⟩
  · have hg : Hid (goesOn s p lo hi = false) := Lib.hid (by unfold goesOn; simp [h])
    go_enter Tryz.func164, Tryz.ntmps164
    go_wp2
    go_ret
    exact ⟨by rw [hg.out]; rfl, rfl⟩

theorem goesOn_iff (s : ByteArray) (p k lo hi : Nat) (hk : 0 < k) : (k < s.size - p ∧ lo ≤ (s.get! (p + k)).toNat ∧ (s.get! (p + k)).toNat ≤ hi) ↔ goesOn s (p + k) lo hi = true := by
  unfold goesOn
  simp only [Bool.and_eq_true, decide_eq_true_eq]
  constructor
  · rintro ⟨h1, h2, h3⟩; exact ⟨by omega, h2, h3⟩
  · rintro ⟨h1, h2, h3⟩; exact ⟨by omega, h2, h3⟩
/-- the sign at a place, by what goes on -/
def signG (c : Nat) (g : Nat → Nat → Nat → Bool) : Nat :=
  if c < 128 then 1 else
  if 194 ≤ c ∧ c ≤ 223 ∧ g 1 128 191 = true then 2 else
  let from' := if c = 240 then 144 else if c = 224 ∨ c = 240 then 160 else 128
  let to' := if c = 244 then 143 else if c = 237 then 159 else 191
  if 224 ≤ c ∧ c ≤ 239 ∧ g 1 from' to' = true ∧ g 2 128 191 = true then 3 else
  if 240 ≤ c ∧ c ≤ 244 ∧ g 1 from' to' = true ∧ g 2 128 191 = true ∧ g 3 128 191 = true then 4 else 0
theorem signAt_G (s : ByteArray) (p : Nat) : signAt s p = signG (s.get! p).toNat fun k lo hi => goesOn s (p + k) lo hi := by
  unfold signAt signW signG
  simp only [goesOn_iff s p 1 _ _ (by decide), goesOn_iff s p 2 _ _ (by decide), goesOn_iff s p 3 _ _ (by decide)]

set_option maxRecDepth 100000 in
/-- two bytes -/
theorem sign_two (s : ByteArray) (p : Nat) (h : p < s.size) (hs : s.size ≤ 9223372036854775800) (c : Int) (hc : ((s[p]'h).toNat : Int) = c) (h1 : 194 ≤ c) (h2 : c ≤ 223) (m : Bool) (w : World)
    (hm : ∀ w, Calls Tryz.prog 164 #[.string s, .int .i64 ((p : Int) + 1), .int .i64 128, .int .i64 191] w fun e w' => e = .returned (.bool m) ∧ w = w') :
    Calls Tryz.prog 150 #[.string s, .int .i64 (p : Int)] w fun e w' => e = .returned (.int .i64 (if m = true then 2 else 0)) ∧ w = w' := by
  have HM := Lib.hid hm
  clear hm
  go_enter Tryz.func150, Tryz.ntmps150
  go_wp2_with (first | (go_at_call 164; refine (HM.out _).mono ?_; rintro e w' ⟨rfl, rfl⟩))
  all_goals go_ret
  all_goals exact ⟨rfl, rfl⟩

set_option maxHeartbeats 1600000 in
set_option maxRecDepth 100000 in
/-- three bytes -/
theorem sign_three (s : ByteArray) (p : Nat) (h : p < s.size) (hs : s.size ≤ 9223372036854775800) (c lo hi : Int) (hc : ((s[p]'h).toNat : Int) = c)
    (hcl : (c = 224 ∧ lo = 160 ∧ hi = 191) ∨ (c = 237 ∧ lo = 128 ∧ hi = 159) ∨ (224 < c ∧ c ≤ 239 ∧ c ≠ 237 ∧ lo = 128 ∧ hi = 191)) (m1 m2 : Bool) (r : Int) (hr : (if m1 && m2 then (3 : Int) else 0) = r) (w : World)
    (hm1 : ∀ w, Calls Tryz.prog 164 #[.string s, .int .i64 ((p : Int) + 1), .int .i64 lo, .int .i64 hi] w fun e w' => e = .returned (.bool m1) ∧ w = w')
    (hm2 : ∀ w, Calls Tryz.prog 164 #[.string s, .int .i64 ((p : Int) + 2), .int .i64 128, .int .i64 191] w fun e w' => e = .returned (.bool m2) ∧ w = w') :
    Calls Tryz.prog 150 #[.string s, .int .i64 (p : Int)] w fun e w' => e = .returned (.int .i64 r) ∧ w = w' := by
  have HM1 := Lib.hid hm1
  have HM2 := Lib.hid hm2
  clear hm1 hm2
  rcases hcl with ⟨rfl, rfl, rfl⟩ | ⟨rfl, rfl, rfl⟩ | ⟨h1, h2, h3, rfl, rfl⟩
  case' inr.inr =>
    have h4 : (c == 237) = false := by rw [beq_eq_false_iff_ne]; exact h3
    have h5 : (c == 224) = false := by rw [beq_eq_false_iff_ne]; omega
    have h6 : (c == 240) = false := by rw [beq_eq_false_iff_ne]; omega
    have h7 : (c == 244) = false := by rw [beq_eq_false_iff_ne]; omega
    have h8 : 194 ≤ c := by omega
    have h9 : ¬ c ≤ 223 := by omega
    have h10 : ¬ c < 128 := by omega
    have h11 : 224 ≤ c := by omega
    have h12 : ¬ 240 ≤ c := by omega
    clear h3 h1
  all_goals
    rcases m1 with _ | _
    · obtain rfl : r = 0 := hr.symm
      go_enter Tryz.func150, Tryz.ntmps150
      go_wp2_with (first | (go_at_call 164; fail))
      go_at_call 164
      refine (HM1.out _).mono ?_
      rintro e w' ⟨rfl, rfl⟩
      go_wp2
      go_ret
      exact ⟨rfl, rfl⟩
    · rcases m2 with _ | _
      case' false => obtain rfl : r = 0 := hr.symm
      case' true => obtain rfl : r = 3 := hr.symm
      all_goals
        go_enter Tryz.func150, Tryz.ntmps150
        go_wp2_with (first | (go_at_call 164; fail))
        go_at_call 164
        refine (HM1.out _).mono ?_
        rintro e w' ⟨rfl, rfl⟩
        go_wp2_with (first | (go_at_call 164; fail))
        go_at_call 164
        refine (HM2.out _).mono ?_
        rintro e w' ⟨rfl, rfl⟩
        go_wp2
        go_ret
        exact ⟨rfl, rfl⟩
set_option maxHeartbeats 3200000 in
set_option maxRecDepth 100000 in
/-- four bytes -/
theorem sign_four (s : ByteArray) (p : Nat) (h : p < s.size) (hs : s.size ≤ 9223372036854775800) (c lo hi : Int) (hc : ((s[p]'h).toNat : Int) = c)
    (hcl : (c = 240 ∧ lo = 144 ∧ hi = 191) ∨ (c = 244 ∧ lo = 128 ∧ hi = 143) ∨ (240 < c ∧ c < 244 ∧ lo = 128 ∧ hi = 191)) (m1 m2 m3 : Bool) (r : Int) (hr : (if m1 && m2 && m3 then (4 : Int) else 0) = r) (w : World)
    (hm1 : ∀ w, Calls Tryz.prog 164 #[.string s, .int .i64 ((p : Int) + 1), .int .i64 lo, .int .i64 hi] w fun e w' => e = .returned (.bool m1) ∧ w = w')
    (hm2 : ∀ w, Calls Tryz.prog 164 #[.string s, .int .i64 ((p : Int) + 2), .int .i64 128, .int .i64 191] w fun e w' => e = .returned (.bool m2) ∧ w = w')
    (hm3 : ∀ w, Calls Tryz.prog 164 #[.string s, .int .i64 ((p : Int) + 3), .int .i64 128, .int .i64 191] w fun e w' => e = .returned (.bool m3) ∧ w = w') :
    Calls Tryz.prog 150 #[.string s, .int .i64 (p : Int)] w fun e w' => e = .returned (.int .i64 r) ∧ w = w' := by
  have HM1 := Lib.hid hm1
  have HM2 := Lib.hid hm2
  have HM3 := Lib.hid hm3
  clear hm1 hm2 hm3
  rcases hcl with ⟨rfl, rfl, rfl⟩ | ⟨rfl, rfl, rfl⟩ | ⟨h1, h2, rfl, rfl⟩
  case' inr.inr =>
    have h4 : (c == 237) = false := by rw [beq_eq_false_iff_ne]; omega
    have h5 : (c == 224) = false := by rw [beq_eq_false_iff_ne]; omega
    have h6 : (c == 240) = false := by rw [beq_eq_false_iff_ne]; omega
    have h7 : (c == 244) = false := by rw [beq_eq_false_iff_ne]; omega
    have h8 : 194 ≤ c := by omega
    have h9 : ¬ c ≤ 223 := by omega
    have h10 : ¬ c < 128 := by omega
    have h11 : 224 ≤ c := by omega
    have h12 : 240 ≤ c := by omega
    have h13 : ¬ c ≤ 239 := by omega
    have h14 : c ≤ 244 := by omega
    clear h1 h2
  all_goals
    rcases m1 with _ | _
    · obtain rfl : r = 0 := hr.symm
      go_enter Tryz.func150, Tryz.ntmps150
      go_wp2_with (first | (go_at_call 164; fail))
      go_at_call 164
      refine (HM1.out _).mono ?_
      rintro e w' ⟨rfl, rfl⟩
      go_wp2
      go_ret
      exact ⟨rfl, rfl⟩
    · rcases m2 with _ | _
      · obtain rfl : r = 0 := hr.symm
        go_enter Tryz.func150, Tryz.ntmps150
        go_wp2_with (first | (go_at_call 164; fail))
        go_at_call 164
        refine (HM1.out _).mono ?_
        rintro e w' ⟨rfl, rfl⟩
        go_wp2_with (first | (go_at_call 164; fail))
        go_at_call 164
        refine (HM2.out _).mono ?_
        rintro e w' ⟨rfl, rfl⟩
        go_wp2
        go_ret
        exact ⟨rfl, rfl⟩
      · rcases m3 with _ | _
        case' false => obtain rfl : r = 0 := hr.symm
        case' true => obtain rfl : r = 4 := hr.symm
        all_goals
          go_enter Tryz.func150, Tryz.ntmps150
          go_wp2_with (first | (go_at_call 164; fail))
          go_at_call 164
          refine (HM1.out _).mono ?_
          rintro e w' ⟨rfl, rfl⟩
          go_wp2_with (first | (go_at_call 164; fail))
          go_at_call 164
          refine (HM2.out _).mono ?_
          rintro e w' ⟨rfl, rfl⟩
          go_wp2_with (first | (go_at_call 164; fail))
          go_at_call 164
          refine (HM3.out _).mono ?_
          rintro e w' ⟨rfl, rfl⟩
          go_wp2
          go_ret
          exact ⟨rfl, rfl⟩
end Go.Proofs.YtkobkeopajohiaaGreatDoor
