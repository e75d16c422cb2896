/-
  CONTRACT of deci.Fixed.
-/
import Derived.Test.YtkobkeopajohiaaDoorT2

namespace Go.Proofs.YtkobkeopajohiaaDoor
open Go.RowKit Go.Lib

theorem ret_sb {s : ByteArray} {t : ByteArray} {p : Bool} (h : s = t) : Ending.returned (.tuple #[.string s, .bool p]) = .returned (.tuple #[.string t, .bool p]) := by rw [h]
theorem ba_eq {s t : ByteArray} (h : s.data.toList = t.data.toList) : s = t := by
  cases s; cases t; congr 1; exact Array.toList_inj.1 h

/-- what Fixed of a rounded number is, as bytes -/
def FixIs (a p : Int) (t : ByteArray) (ok : Bool) : Prop :=
  ((p < 0 ∨ 4 < p) ∧ t = ⟨#[]⟩ ∧ ok = false) ∨ ((0 ≤ p ∧ p ≤ 4) ∧ (Tab.roundS a p).2 = false ∧ t = ⟨#[]⟩ ∧ ok = false) ∨
  ((0 ≤ p ∧ p ≤ 4) ∧ (Tab.roundS a p).2 = true ∧ t.data.toList = Tab.fixL (Tab.roundS a p).1 p.toNat ∧ ok = true)
theorem fixIs_ex (a p : Int) : ∃ t ok, FixIs a p t ok := by
  by_cases hp : p < 0 ∨ 4 < p
  · exact ⟨_, _, .inl ⟨hp, rfl, rfl⟩⟩
  · cases h : (Tab.roundS a p).2 with
    | false => exact ⟨_, _, .inr (.inl ⟨by omega, h, rfl, rfl⟩)⟩
    | true => exact ⟨⟨(Tab.fixL (Tab.roundS a p).1 p.toNat).toArray⟩, _, .inr (.inr ⟨by omega, h, rfl, rfl⟩)⟩

set_option maxHeartbeats 800000 in
theorem fixed_is (a p : Int) (t : ByteArray) (ok : Bool) (w : World) (hT : GT w) (hP : GP w) (ha : -999999999999999999 ≤ a ∧ a ≤ 999999999999999999) (hf : FixIs a p t ok) :
    Calls Tryd.prog 28 #[.int .i64 a, .int .i64 p] w fun e w' => e = .returned (.tuple #[.string t, .bool ok]) ∧ Below w.heap.size w w' := by
  rcases hf with ⟨hp, rfl, rfl⟩ | ⟨⟨p0, p1⟩, hr, rfl, rfl⟩ | ⟨⟨p0, p1⟩, hr, ht, rfl⟩
  · rcases hp with hp | hp
    all_goals
      go_enter Tryd.func28, Tryd.ntmps28
      go_wp2
      go_ret2
      exact ⟨rfl, Below.refl _ _⟩
  · have HR := Lib.hid (round_is a p _ false w hT ha (by rw [← hr]))
    clear hr
    go_enter Tryd.func28, Tryd.ntmps28
    go_wp2_with (first
      | (go_at_call 18; refine HR.out.mono ?_; rintro e w' ⟨rfl, rfl⟩))
    go_ret2
    exact ⟨rfl, Below.refl _ _⟩
  · have HR := Lib.hid (round_is a p _ true w hT ha (by rw [← hr]))
    have hrb := (Tab.near_law a p ha ⟨p0, p1⟩ (Tab.roundS a p).1 (by rw [← hr])).1
    generalize (Tab.roundS a p).1 = r at *
    obtain ⟨r0, r1⟩ := hrb
    have sz : (r.natAbs : Int) ≤ 999999999999999999 := by omega
    obtain ⟨s1, e1⟩ : ∃ s1 : ByteArray, s1.data.toList = decDigits (r.natAbs / 10000) := ⟨⟨(decDigits _).toArray⟩, rfl⟩
    obtain ⟨s2, e2⟩ : ∃ s2 : ByteArray, s2.data.toList = decDigits (10000 + r.natAbs % 10000) := ⟨⟨(decDigits _).toArray⟩, rfl⟩
    have n1 : s1.size ≤ 20 := by rw [size_eq, e1]; exact dec_size _ (by omega)
    have l2 : s2.size = 5 := by rw [size_eq, e2, decDigits_length]; exact nDigits_unique 4 _ (by omega) (by omega)
    have hx : ∀ k : Nat, k ≤ 4 → (s2.extract 1 (1 + k)).data.toList = (Tab.four (r.natAbs % 10000)).take k := by
      intro k hk
      rw [extract_data, e2, show 1 + k - 1 = k by omega, ← Tab.four_eq _ (by omega)]
    have l3 : (5 : Int) ≤ s2.size := by omega
    have l4 : (s2.size : Int) ≤ 5 := by omega
    have E1 := Lib.hid e1
    have E2 := Lib.hid e2
    have HX := Lib.hid hx
    have HT := Lib.hid ht
    clear l2 e1 e2 hx ht hr
    obtain ⟨k, rfl⟩ := Int.eq_ofNat_of_zero_le p0
    have hk : k ≤ 4 := by omega
    have htk := HT.out
    rw [Int.toNat_natCast] at htk
    unfold Tab.fixL at htk
    rw [← E1.out] at htk
    by_cases hpos : 0 < k
    · rw [if_pos hpos, ← HX.out k hk] at htk
      have hpi : (0 : Int) < (k : Int) := by omega
      have hkx : (s2.extract 1 (1 + k)).size ≤ 4 := by rw [size_eq, HX.out k hk, List.length_take]; omega
      by_cases hneg : r < 0
      · rw [if_pos hneg] at htk
        have hfin : (⟨#[45]⟩ ++ (s1 ++ (⟨#[46]⟩ ++ s2.extract 1 (1 + k))) : ByteArray) = t := ba_eq (by rw [htk]; simp only [ByteArray.data_append, Array.toList_append]; rfl)
        have HF := Lib.hid hfin
        clear hfin htk
        go_enter Tryd.func28, Tryd.ntmps28
        go_wp2_with (first
          | (go_at_call 18; refine HR.out.mono ?_; rintro e w' ⟨rfl, rfl⟩)
          | (go_at_call 57; refine (size_any r _ (by omega) (by omega)).mono ?_; rintro e w' ⟨rfl, rfl⟩))
        go_at_call 58
        refine (formatUint_is _ s1 _ hP (by omega) (by omega) (by rw [E1.out]; congr 1)).mono ?_
        rintro e w1 ⟨rfl, hb1⟩
        have hP1 := hP.below hb1
        go_wp2_with (first | (go_at_call 58; refine (formatUint_is _ s2 _ hP1 (by omega) (by omega) (by rw [E2.out]; congr 1)).mono ?_; rintro e w2 ⟨rfl, hb2⟩))
        go_ret2
        exact ⟨ret_sb HF.out, hb1.trans (hb2.mono hb1.size)⟩
      · rw [if_neg hneg] at htk
        have hfin : (s1 ++ (⟨#[46]⟩ ++ s2.extract 1 (1 + k)) : ByteArray) = t := ba_eq (by rw [htk]; simp only [ByteArray.data_append, Array.toList_append]; rfl)
        have HF := Lib.hid hfin
        clear hfin htk
        go_enter Tryd.func28, Tryd.ntmps28
        go_wp2_with (first
          | (go_at_call 18; refine HR.out.mono ?_; rintro e w' ⟨rfl, rfl⟩)
          | (go_at_call 57; refine (size_any r _ (by omega) (by omega)).mono ?_; rintro e w' ⟨rfl, rfl⟩))
        go_at_call 58
        refine (formatUint_is _ s1 _ hP (by omega) (by omega) (by rw [E1.out]; congr 1)).mono ?_
        rintro e w1 ⟨rfl, hb1⟩
        have hP1 := hP.below hb1
        go_wp2_with (first | (go_at_call 58; refine (formatUint_is _ s2 _ hP1 (by omega) (by omega) (by rw [E2.out]; congr 1)).mono ?_; rintro e w2 ⟨rfl, hb2⟩))
        go_ret2
        exact ⟨ret_sb HF.out, hb1.trans (hb2.mono hb1.size)⟩
    · rw [if_neg hpos, List.append_nil] at htk
      have hpi : (k : Int) ≤ 0 := by omega
      have hpd : decide (0 < k) = false := decide_eq_false hpos
      by_cases hneg : r < 0
      · rw [if_pos hneg] at htk
        have hfin : (⟨#[45]⟩ ++ s1 : ByteArray) = t := ba_eq (by rw [htk]; simp only [ByteArray.data_append, Array.toList_append])
        have HF := Lib.hid hfin
        clear hfin htk
        go_enter Tryd.func28, Tryd.ntmps28
        go_wp2_with (first
          | (go_at_call 18; refine HR.out.mono ?_; rintro e w' ⟨rfl, rfl⟩)
          | (go_at_call 57; refine (size_any r _ (by omega) (by omega)).mono ?_; rintro e w' ⟨rfl, rfl⟩))
        go_at_call 58
        refine (formatUint_is _ s1 _ hP (by omega) (by omega) (by rw [E1.out]; congr 1)).mono ?_
        rintro e w1 ⟨rfl, hb1⟩
        go_wp2
        go_ret2
        exact ⟨ret_sb HF.out, hb1⟩
      · rw [if_neg hneg] at htk
        have hfin : s1 = t := ba_eq (by rw [htk]; rfl)
        have HF := Lib.hid hfin
        clear hfin htk
        go_enter Tryd.func28, Tryd.ntmps28
        go_wp2_with (first
          | (go_at_call 18; refine HR.out.mono ?_; rintro e w' ⟨rfl, rfl⟩)
          | (go_at_call 57; refine (size_any r _ (by omega) (by omega)).mono ?_; rintro e w' ⟨rfl, rfl⟩))
        go_at_call 58
        refine (formatUint_is _ s1 _ hP (by omega) (by omega) (by rw [E1.out]; congr 1)).mono ?_
        rintro e w1 ⟨rfl, hb1⟩
        go_wp2
        go_ret2
        exact ⟨ret_sb HF.out, hb1⟩
end Go.Proofs.YtkobkeopajohiaaDoor
