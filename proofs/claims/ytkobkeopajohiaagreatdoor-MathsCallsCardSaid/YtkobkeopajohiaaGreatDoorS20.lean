/-
  FUNCTIONS OF NUMBERS, called by name: what both sides answer (printed by gen/gen_s20.py).
-/
import Derived.Test.YtkobkeopajohiaaGreatDoorS10
import Derived.Test.YtkobkeopajohiaaGreatDoorS11
import Derived.Test.YtkobkeopajohiaaGreatDoorS14
import Derived.Test.YtkobkeopajohiaaGreatDoorS15
import Derived.Test.YtkobkeopajohiaaGreatDoorS16
import Derived.Test.YtkobkeopajohiaaGreatDoorS17
import Derived.Test.YtkobkeopajohiaaGreatDoorS18
import Derived.Test.YtkobkeopajohiaaGreatDoorS19
import Derived.Test.YtkobkeopajohiaaGreatDoorF4
namespace Go.Proofs.YtkobkeopajohiaaGreatDoor
open Go.RowKit Go.Lib
/-- both sides answer v to the name s at the arguments vs -/
def Both (s : ByteArray) (vs : List V) (v : V) : Prop :=
  (∀ g cap w, GM w → GT w → ArgsAt w g vs → Calls Tryz.prog 13 #[.string s, .slice (some ⟨g, 0, none⟩) vs.length cap] w fun e w' => e = .returned v.val ∧ Below w.heap.size w w') ∧
  (∀ g cap w, TellsAt w g vs → Calls Tryz.prog 15 #[.string s, .slice (some ⟨g, 0, none⟩) vs.length cap] w fun e w' => e = .returned v.tell ∧ Below w.heap.size w w')
theorem cnt_near (X : Nat) : cnt (Tab.fit (X : Int)) = if 999999999999999999 < X then V.fail 2 else V.num (X : Int) := by
  unfold cnt Tab.fit
  by_cases h : 999999999999999999 < X
  · rw [if_pos h, if_neg (by omega : ¬ (-999999999999999999 ≤ (X : Int) ∧ (X : Int) ≤ 999999999999999999))]; rfl
  · rw [if_neg h, if_pos (by omega : (-999999999999999999 ≤ (X : Int) ∧ (X : Int) ≤ 999999999999999999))]; rfl
theorem cnt_near_neg (X : Nat) : cnt (-(Tab.fit (X : Int)).1, (Tab.fit (X : Int)).2) = if 999999999999999999 < X then V.fail 2 else V.num (-(X : Int)) := by
  unfold cnt Tab.fit
  by_cases h : 999999999999999999 < X
  · rw [if_pos h, if_neg (by omega : ¬ (-999999999999999999 ≤ (X : Int) ∧ (X : Int) ≤ 999999999999999999))]; rfl
  · rw [if_neg h, if_pos (by omega : (-999999999999999999 ≤ (X : Int) ∧ (X : Int) ≤ 999999999999999999))]; rfl
theorem both_ABS1 (vs : List V) (a : Int) (hs : ∀ v ∈ vs, v.short 4294967) (hlen : vs.length = 1) (hnum : nums vs [] = ([a], 0)) (ha : -999999999999999999 ≤ a ∧ a ≤ 999999999999999999) : ∃ v, Both ⟨#[65, 66, 83]⟩ vs v := by
  exact ⟨V.num (a.natAbs : Int), fun g cap w hG hT hA => by rw [hlen]; exact call_ABS1 vs g cap a _ w hG hT hA hs hlen hnum ha (rfl), fun g cap w hA => by rw [hlen]; exact refCall_ABS1 vs g cap a _ w hA hs hlen hnum ha (rfl)⟩
theorem both_SIGN1 (vs : List V) (a : Int) (hs : ∀ v ∈ vs, v.short 4294967) (hlen : vs.length = 1) (hnum : nums vs [] = ([a], 0)) (ha : -999999999999999999 ≤ a ∧ a ≤ 999999999999999999) : ∃ v, Both ⟨#[83, 73, 71, 78]⟩ vs v := by
  rcases Int.lt_trichotomy a 0 with h | h | h
  · exact ⟨V.num (a.sign * 10000), fun g cap w hG hT hA => by rw [hlen]; exact call_SIGN1 vs g cap a _ w hG hT hA hs hlen hnum ha (rfl), fun g cap w hA => by rw [hlen]; exact refCall_SIGN1n vs g cap a _ w hA hs hlen hnum ha h (by rw [Int.sign_eq_neg_one_of_neg h]; rfl)⟩
  · exact ⟨V.num (a.sign * 10000), fun g cap w hG hT hA => by rw [hlen]; exact call_SIGN1 vs g cap a _ w hG hT hA hs hlen hnum ha (rfl), fun g cap w hA => by rw [hlen]; exact refCall_SIGN1z vs g cap a _ w hA hs hlen hnum ha h (by rw [h]; rfl)⟩
  · exact ⟨V.num (a.sign * 10000), fun g cap w hG hT hA => by rw [hlen]; exact call_SIGN1 vs g cap a _ w hG hT hA hs hlen hnum ha (rfl), fun g cap w hA => by rw [hlen]; exact refCall_SIGN1p vs g cap a _ w hA hs hlen hnum ha h (by rw [Int.sign_eq_one_of_pos h]; rfl)⟩
theorem both_INT1 (vs : List V) (a : Int) (hs : ∀ v ∈ vs, v.short 4294967) (hlen : vs.length = 1) (hnum : nums vs [] = ([a], 0)) (ha : -999999999999999999 ≤ a ∧ a ≤ 999999999999999999) : ∃ v, Both ⟨#[73, 78, 84]⟩ vs v := by
  exact ⟨cnt (Tab.fit (a - a % 10000)), fun g cap w hG hT hA => by rw [hlen]; exact call_INT1 vs g cap a _ w hG hT hA hs hlen hnum ha (rfl), fun g cap w hA => by rw [hlen]; exact refCall_INT1 vs g cap a _ w hA hs hlen hnum ha (rfl)⟩
theorem both_SQRT1 (vs : List V) (a : Int) (hs : ∀ v ∈ vs, v.short 4294967) (hlen : vs.length = 1) (hnum : nums vs [] = ([a], 0)) (ha : -999999999999999999 ≤ a ∧ a ≤ 999999999999999999) : ∃ v, Both ⟨#[83, 81, 82, 84]⟩ vs v := by
  by_cases h : a < 0
  · exact ⟨sqrtV a, fun g cap w hG hT hA => by rw [hlen]; exact call_SQRT1 vs g cap a _ w hG hT hA hs hlen hnum ha (rfl), fun g cap w hA => by rw [hlen]; exact refCall_SQRT1n vs g cap a _ w hA hs hlen hnum ha h (by unfold sqrtV sqrtR; rw [if_pos h]; rfl)⟩
  · exact ⟨sqrtV a, fun g cap w hG hT hA => by rw [hlen]; exact call_SQRT1 vs g cap a _ w hG hT hA hs hlen hnum ha (rfl), fun g cap w hA => by rw [hlen]; exact refCall_SQRT1 vs g cap a _ w hA hs hlen hnum ha (by omega) (by unfold sqrtV sqrtR; rw [if_neg h]; rfl)⟩
theorem both_FACT1 (vs : List V) (a : Int) (hs : ∀ v ∈ vs, v.short 4294967) (hlen : vs.length = 1) (hnum : nums vs [] = ([a], 0)) (ha : -999999999999999999 ≤ a ∧ a ≤ 999999999999999999) : ∃ v, Both ⟨#[70, 65, 67, 84]⟩ vs v := by
  exact ⟨factV a, fun g cap w hG hT hA => by rw [hlen]; exact call_FACT1 vs g cap a _ w hG hT hA hs hlen hnum ha (rfl), fun g cap w hA => by rw [hlen]; exact refCall_FACT1 vs g cap a _ w hA hs hlen hnum ha (rfl)⟩
theorem both_EVEN1 (vs : List V) (a : Int) (hs : ∀ v ∈ vs, v.short 4294967) (hlen : vs.length = 1) (hnum : nums vs [] = ([a], 0)) (ha : -999999999999999999 ≤ a ∧ a ≤ 999999999999999999) : ∃ v, Both ⟨#[69, 86, 69, 78]⟩ vs v := by
  exact ⟨pairV a 0, fun g cap w hG hT hA => by rw [hlen]; exact call_EVEN1 vs g cap a _ w hG hT hA hs hlen hnum ha (rfl), fun g cap w hA => by rw [hlen]; exact refCall_EVEN1 vs g cap a _ w hA hs hlen hnum ha (rfl)⟩
theorem both_ODD1 (vs : List V) (a : Int) (hs : ∀ v ∈ vs, v.short 4294967) (hlen : vs.length = 1) (hnum : nums vs [] = ([a], 0)) (ha : -999999999999999999 ≤ a ∧ a ≤ 999999999999999999) : ∃ v, Both ⟨#[79, 68, 68]⟩ vs v := by
  exact ⟨pairV a 1, fun g cap w hG hT hA => by rw [hlen]; exact call_ODD1 vs g cap a _ w hG hT hA hs hlen hnum ha (rfl), fun g cap w hA => by rw [hlen]; exact refCall_ODD1 vs g cap a _ w hA hs hlen hnum ha (rfl)⟩
theorem both_TRUNC1 (vs : List V) (a : Int) (hs : ∀ v ∈ vs, v.short 4294967) (hlen : vs.length = 1) (hnum : nums vs [] = ([a], 0)) (ha : -999999999999999999 ≤ a ∧ a ≤ 999999999999999999) : ∃ v, Both ⟨#[84, 82, 85, 78, 67]⟩ vs v := by
  exact ⟨V.num (Tab.truncS a 0), fun g cap w hG hT hA => by rw [hlen]; exact call_TRUNC1 vs g cap a _ w hG hT hA hs hlen hnum ha (rfl), fun g cap w hA => by rw [hlen]; exact refCall_TRUNC1 vs g cap a _ w hA hs hlen hnum ha (rfl)⟩
theorem both_TRUNC2 (vs : List V) (a b : Int) (hs : ∀ v ∈ vs, v.short 4294967) (hlen : vs.length = 2) (hnum : nums vs [] = ([a, b], 0)) (ha : -999999999999999999 ≤ a ∧ a ≤ 999999999999999999) (hb : -999999999999999999 ≤ b ∧ b ≤ 999999999999999999) : ∃ v, Both ⟨#[84, 82, 85, 78, 67]⟩ vs v := by
  exact ⟨V.num (Tab.truncS a (plc b)), fun g cap w hG hT hA => by rw [hlen]; exact call_TRUNC2 vs g cap a b _ w hG hT hA hs hlen hnum ha hb (rfl), fun g cap w hA => by rw [hlen]; exact refCall_TRUNC2 vs g cap a b _ w hA hs hlen hnum ha hb (rfl)⟩
theorem both_ROUNDDOWN1 (vs : List V) (a : Int) (hs : ∀ v ∈ vs, v.short 4294967) (hlen : vs.length = 1) (hnum : nums vs [] = ([a], 0)) (ha : -999999999999999999 ≤ a ∧ a ≤ 999999999999999999) : ∃ v, Both ⟨#[82, 79, 85, 78, 68, 68, 79, 87, 78]⟩ vs v := by
  exact ⟨V.num (Tab.truncS a 0), fun g cap w hG hT hA => by rw [hlen]; exact call_ROUNDDOWN1 vs g cap a _ w hG hT hA hs hlen hnum ha (rfl), fun g cap w hA => by rw [hlen]; exact refCall_ROUNDDOWN1 vs g cap a _ w hA hs hlen hnum ha (rfl)⟩
theorem both_ROUNDDOWN2 (vs : List V) (a b : Int) (hs : ∀ v ∈ vs, v.short 4294967) (hlen : vs.length = 2) (hnum : nums vs [] = ([a, b], 0)) (ha : -999999999999999999 ≤ a ∧ a ≤ 999999999999999999) (hb : -999999999999999999 ≤ b ∧ b ≤ 999999999999999999) : ∃ v, Both ⟨#[82, 79, 85, 78, 68, 68, 79, 87, 78]⟩ vs v := by
  exact ⟨V.num (Tab.truncS a (plc b)), fun g cap w hG hT hA => by rw [hlen]; exact call_ROUNDDOWN2 vs g cap a b _ w hG hT hA hs hlen hnum ha hb (rfl), fun g cap w hA => by rw [hlen]; exact refCall_ROUNDDOWN2 vs g cap a b _ w hA hs hlen hnum ha hb (rfl)⟩
theorem both_ROUND1 (vs : List V) (a : Int) (hs : ∀ v ∈ vs, v.short 4294967) (hlen : vs.length = 1) (hnum : nums vs [] = ([a], 0)) (ha : -999999999999999999 ≤ a ∧ a ≤ 999999999999999999) : ∃ v, Both ⟨#[82, 79, 85, 78, 68]⟩ vs v := by
  exact ⟨cnt (Tab.roundS a 0), fun g cap w hG hT hA => by rw [hlen]; exact call_ROUND1 vs g cap a _ w hG hT hA hs hlen hnum ha (rfl), fun g cap w hA => by rw [hlen]; exact refCall_ROUND1 vs g cap a _ w hA hs hlen hnum ha (rfl)⟩
theorem both_ROUND2 (vs : List V) (a b : Int) (hs : ∀ v ∈ vs, v.short 4294967) (hlen : vs.length = 2) (hnum : nums vs [] = ([a, b], 0)) (ha : -999999999999999999 ≤ a ∧ a ≤ 999999999999999999) (hb : -999999999999999999 ≤ b ∧ b ≤ 999999999999999999) : ∃ v, Both ⟨#[82, 79, 85, 78, 68]⟩ vs v := by
  exact ⟨cnt (Tab.roundS a (plc b)), fun g cap w hG hT hA => by rw [hlen]; exact call_ROUND2 vs g cap a b _ w hG hT hA hs hlen hnum ha hb (rfl), fun g cap w hA => by rw [hlen]; exact refCall_ROUND2 vs g cap a b _ w hA hs hlen hnum ha hb (rfl)⟩
theorem both_ROUNDUP1 (vs : List V) (a : Int) (hs : ∀ v ∈ vs, v.short 4294967) (hlen : vs.length = 1) (hnum : nums vs [] = ([a], 0)) (ha : -999999999999999999 ≤ a ∧ a ≤ 999999999999999999) : ∃ v, Both ⟨#[82, 79, 85, 78, 68, 85, 80]⟩ vs v := by
  exact ⟨awayW a 0, fun g cap w hG hT hA => by rw [hlen]; exact call_ROUNDUP1 vs g cap a _ w hG hT hA hs hlen hnum ha (rfl), fun g cap w hA => by rw [hlen]; exact refCall_ROUNDUP1 vs g cap a _ w hA hs hlen hnum ha (rfl)⟩
theorem both_ROUNDUP2 (vs : List V) (a b : Int) (hs : ∀ v ∈ vs, v.short 4294967) (hlen : vs.length = 2) (hnum : nums vs [] = ([a, b], 0)) (ha : -999999999999999999 ≤ a ∧ a ≤ 999999999999999999) (hb : -999999999999999999 ≤ b ∧ b ≤ 999999999999999999) : ∃ v, Both ⟨#[82, 79, 85, 78, 68, 85, 80]⟩ vs v := by
  exact ⟨awayW a (plc b), fun g cap w hG hT hA => by rw [hlen]; exact call_ROUNDUP2 vs g cap a b _ w hG hT hA hs hlen hnum ha hb (rfl), fun g cap w hA => by rw [hlen]; exact refCall_ROUNDUP2 vs g cap a b _ w hA hs hlen hnum ha hb (rfl)⟩
theorem both_FLOOR1 (vs : List V) (a : Int) (hs : ∀ v ∈ vs, v.short 4294967) (hlen : vs.length = 1) (hnum : nums vs [] = ([a], 0)) (ha : -999999999999999999 ≤ a ∧ a ≤ 999999999999999999) : ∃ v, Both ⟨#[70, 76, 79, 79, 82]⟩ vs v := by
  exact ⟨steppedV a 10000 false, fun g cap w hG hT hA => by rw [hlen]; exact call_FLOOR1 vs g cap a _ w hG hT hA hs hlen hnum ha (rfl), fun g cap w hA => by rw [hlen]; exact refCall_FLOOR1 vs g cap a _ w hA hs hlen hnum ha (by unfold steppedV; rw [if_neg (by decide), if_neg (by decide), if_neg (by decide)])⟩
theorem both_FLOOR2 (vs : List V) (a b : Int) (hs : ∀ v ∈ vs, v.short 4294967) (hlen : vs.length = 2) (hnum : nums vs [] = ([a, b], 0)) (ha : -999999999999999999 ≤ a ∧ a ≤ 999999999999999999) (hb : -999999999999999999 ≤ b ∧ b ≤ 999999999999999999) : ∃ v, Both ⟨#[70, 76, 79, 79, 82]⟩ vs v := by
  rcases Int.lt_trichotomy b 0 with h | h | h
  · exact ⟨steppedV a b false, fun g cap w hG hT hA => by rw [hlen]; exact call_FLOOR2 vs g cap a b _ w hG hT hA hs hlen hnum ha hb (rfl), fun g cap w hA => by rw [hlen]; exact refCall_FLOOR2n vs g cap a b _ w hA hs hlen hnum ha hb h (by unfold steppedV; rw [if_neg (by omega), if_pos h])⟩
  · exact ⟨steppedV a b false, fun g cap w hG hT hA => by rw [hlen]; exact call_FLOOR2 vs g cap a b _ w hG hT hA hs hlen hnum ha hb (rfl), fun g cap w hA => by rw [hlen]; exact refCall_FLOOR2z vs g cap a b _ w hA hs hlen hnum ha hb h (by unfold steppedV; rw [if_pos h])⟩
  · exact ⟨steppedV a b false, fun g cap w hG hT hA => by rw [hlen]; exact call_FLOOR2 vs g cap a b _ w hG hT hA hs hlen hnum ha hb (rfl), fun g cap w hA => by rw [hlen]; exact refCall_FLOOR2 vs g cap a b _ w hA hs hlen hnum ha hb h (by unfold steppedV; rw [if_neg (by omega), if_neg (by omega), if_neg (by decide)])⟩
theorem both_CEILING1 (vs : List V) (a : Int) (hs : ∀ v ∈ vs, v.short 4294967) (hlen : vs.length = 1) (hnum : nums vs [] = ([a], 0)) (ha : -999999999999999999 ≤ a ∧ a ≤ 999999999999999999) : ∃ v, Both ⟨#[67, 69, 73, 76, 73, 78, 71]⟩ vs v := by
  exact ⟨steppedV a 10000 true, fun g cap w hG hT hA => by rw [hlen]; exact call_CEILING1 vs g cap a _ w hG hT hA hs hlen hnum ha (rfl), fun g cap w hA => by rw [hlen]; exact refCall_CEILING1 vs g cap a _ w hA hs hlen hnum ha (by unfold steppedV; rw [if_neg (by decide), if_neg (by decide), if_pos rfl])⟩
theorem both_CEILING2 (vs : List V) (a b : Int) (hs : ∀ v ∈ vs, v.short 4294967) (hlen : vs.length = 2) (hnum : nums vs [] = ([a, b], 0)) (ha : -999999999999999999 ≤ a ∧ a ≤ 999999999999999999) (hb : -999999999999999999 ≤ b ∧ b ≤ 999999999999999999) : ∃ v, Both ⟨#[67, 69, 73, 76, 73, 78, 71]⟩ vs v := by
  rcases Int.lt_trichotomy b 0 with h | h | h
  · exact ⟨steppedV a b true, fun g cap w hG hT hA => by rw [hlen]; exact call_CEILING2 vs g cap a b _ w hG hT hA hs hlen hnum ha hb (rfl), fun g cap w hA => by rw [hlen]; exact refCall_CEILING2n vs g cap a b _ w hA hs hlen hnum ha hb h (by unfold steppedV; rw [if_neg (by omega), if_pos h])⟩
  · exact ⟨steppedV a b true, fun g cap w hG hT hA => by rw [hlen]; exact call_CEILING2 vs g cap a b _ w hG hT hA hs hlen hnum ha hb (rfl), fun g cap w hA => by rw [hlen]; exact refCall_CEILING2z vs g cap a b _ w hA hs hlen hnum ha hb h (by unfold steppedV; rw [if_pos h])⟩
  · exact ⟨steppedV a b true, fun g cap w hG hT hA => by rw [hlen]; exact call_CEILING2 vs g cap a b _ w hG hT hA hs hlen hnum ha hb (rfl), fun g cap w hA => by rw [hlen]; exact refCall_CEILING2 vs g cap a b _ w hA hs hlen hnum ha hb h (by unfold steppedV; rw [if_neg (by omega), if_neg (by omega), if_pos rfl])⟩
theorem both_MOD2 (vs : List V) (a b : Int) (hs : ∀ v ∈ vs, v.short 4294967) (hlen : vs.length = 2) (hnum : nums vs [] = ([a, b], 0)) (ha : -999999999999999999 ≤ a ∧ a ≤ 999999999999999999) (hb : -999999999999999999 ≤ b ∧ b ≤ 999999999999999999) : ∃ v, Both ⟨#[77, 79, 68]⟩ vs v := by
  by_cases h : b = 0
  · exact ⟨V.fail 1, fun g cap w hG hT hA => by rw [hlen]; exact call_MOD2z vs g cap a b _ w hG hT hA hs hlen hnum ha hb h (rfl), fun g cap w hA => by rw [hlen]; exact refCall_MOD2z vs g cap a b _ w hA hs hlen hnum ha hb h (rfl)⟩
  · exact ⟨V.num (Int.fmod a b), fun g cap w hG hT hA => by rw [hlen]; exact call_MOD2 vs g cap a b _ w hG hT hA hs hlen hnum ha hb h (rfl), fun g cap w hA => by rw [hlen]; exact refCall_MOD2 vs g cap a b _ w hA hs hlen hnum ha hb h (rfl)⟩
theorem both_QUOTIENT2 (vs : List V) (a b : Int) (hs : ∀ v ∈ vs, v.short 4294967) (hlen : vs.length = 2) (hnum : nums vs [] = ([a, b], 0)) (ha : -999999999999999999 ≤ a ∧ a ≤ 999999999999999999) (hb : -999999999999999999 ≤ b ∧ b ≤ 999999999999999999) : ∃ v, Both ⟨#[81, 85, 79, 84, 73, 69, 78, 84]⟩ vs v := by
  by_cases h : b = 0
  · exact ⟨quotV a b, fun g cap w hG hT hA => by rw [hlen]; exact call_QUOTIENT2 vs g cap a b _ w hG hT hA hs hlen hnum ha hb (rfl), fun g cap w hA => by rw [hlen]; exact refCall_QUOTIENT2z vs g cap a b _ w hA hs hlen hnum ha hb h (by unfold quotV; rw [if_pos h])⟩
  by_cases h1 : a < 0
  · exact ⟨quotV a b, fun g cap w hG hT hA => by rw [hlen]; exact call_QUOTIENT2 vs g cap a b _ w hG hT hA hs hlen hnum ha hb (rfl), fun g cap w hA => by rw [hlen]; exact refCall_QUOTIENT2n vs g cap a b _ w hA hs hlen hnum ha hb ⟨h1, h⟩ (by unfold quotV; rw [if_neg (by omega)])⟩
  by_cases h2 : 0 < b
  · exact ⟨quotV a b, fun g cap w hG hT hA => by rw [hlen]; exact call_QUOTIENT2 vs g cap a b _ w hG hT hA hs hlen hnum ha hb (rfl), fun g cap w hA => by rw [hlen]; exact refCall_QUOTIENT2pp vs g cap a b _ w hA hs hlen hnum ha hb (by omega) (by unfold quotV; rw [if_neg (by omega)])⟩
  · exact ⟨quotV a b, fun g cap w hG hT hA => by rw [hlen]; exact call_QUOTIENT2 vs g cap a b _ w hG hT hA hs hlen hnum ha hb (rfl), fun g cap w hA => by rw [hlen]; exact refCall_QUOTIENT2pn vs g cap a b _ w hA hs hlen hnum ha hb (by omega) (by unfold quotV; rw [if_neg (by omega)])⟩
theorem both_POWER2 (vs : List V) (a b : Int) (hs : ∀ v ∈ vs, v.short 4294967) (hlen : vs.length = 2) (hnum : nums vs [] = ([a, b], 0)) (ha : -999999999999999999 ≤ a ∧ a ≤ 999999999999999999) (hb : -999999999999999999 ≤ b ∧ b ≤ 999999999999999999) : ∃ v, Both ⟨#[80, 79, 87, 69, 82]⟩ vs v := by
  exact ⟨powerV a b, fun g cap w hG hT hA => by rw [hlen]; exact call_POWER2 vs g cap a b _ w hG hT hA hs hlen hnum ha hb (rfl), fun g cap w hA => by rw [hlen]; exact refCall_POWER2 vs g cap a b _ w hA hs hlen hnum ha hb (rfl)⟩
theorem both_MROUND2 (vs : List V) (a b : Int) (hs : ∀ v ∈ vs, v.short 4294967) (hlen : vs.length = 2) (hnum : nums vs [] = ([a, b], 0)) (ha : -999999999999999999 ≤ a ∧ a ≤ 999999999999999999) (hb : -999999999999999999 ≤ b ∧ b ≤ 999999999999999999) : ∃ v, Both ⟨#[77, 82, 79, 85, 78, 68]⟩ vs v := by
  by_cases h : b = 0
  · exact ⟨nearV a b, fun g cap w hG hT hA => by rw [hlen]; exact call_MROUND2 vs g cap a b _ w hG hT hA hs hlen hnum ha hb (rfl), fun g cap w hA => by rw [hlen]; exact refCall_MROUND2z vs g cap a b _ w hA hs hlen hnum ha hb h (by unfold nearV; rw [if_pos h])⟩
  by_cases h1 : a < 0 ∧ 0 < b
  · exact ⟨nearV a b, fun g cap w hG hT hA => by rw [hlen]; exact call_MROUND2 vs g cap a b _ w hG hT hA hs hlen hnum ha hb (rfl), fun g cap w hA => by rw [hlen]; exact refCall_MROUND2fn vs g cap a b _ w hA hs hlen hnum ha hb h1 (by unfold nearV; rw [if_neg h, if_pos (.inl h1)])⟩
  by_cases h2 : 0 < a ∧ b < 0
  · exact ⟨nearV a b, fun g cap w hG hT hA => by rw [hlen]; exact call_MROUND2 vs g cap a b _ w hG hT hA hs hlen hnum ha hb (rfl), fun g cap w hA => by rw [hlen]; exact refCall_MROUND2fp vs g cap a b _ w hA hs hlen hnum ha hb h2 (by unfold nearV; rw [if_neg h, if_pos (.inr h2)])⟩
  by_cases h3 : a < 0
  · exact ⟨nearV a b, fun g cap w hG hT hA => by rw [hlen]; exact call_MROUND2 vs g cap a b _ w hG hT hA hs hlen hnum ha hb (rfl), fun g cap w hA => by rw [hlen]; exact refCall_MROUND2mn vs g cap a b _ w hA hs hlen hnum ha hb (by omega) (by rw [cnt_near_neg]; unfold nearV; rw [if_neg h, if_neg (show ¬ ((a < 0 ∧ 0 < b) ∨ (0 < a ∧ b < 0)) from fun hh => hh.elim h1 h2), if_pos h3])⟩
  by_cases h4 : a = 0
  · exact ⟨nearV a b, fun g cap w hG hT hA => by rw [hlen]; exact call_MROUND2 vs g cap a b _ w hG hT hA hs hlen hnum ha hb (rfl), fun g cap w hA => by rw [hlen]; exact refCall_MROUND2mz vs g cap a b _ w hA hs hlen hnum ha hb ⟨h4, h⟩ (by rw [cnt_near]; unfold nearV; rw [if_neg h, if_neg (show ¬ ((a < 0 ∧ 0 < b) ∨ (0 < a ∧ b < 0)) from fun hh => hh.elim h1 h2), if_neg h3])⟩
  · exact ⟨nearV a b, fun g cap w hG hT hA => by rw [hlen]; exact call_MROUND2 vs g cap a b _ w hG hT hA hs hlen hnum ha hb (rfl), fun g cap w hA => by rw [hlen]; exact refCall_MROUND2mp vs g cap a b _ w hA hs hlen hnum ha hb (by omega) (by rw [cnt_near]; unfold nearV; rw [if_neg h, if_neg (show ¬ ((a < 0 ∧ 0 < b) ∨ (0 < a ∧ b < 0)) from fun hh => hh.elim h1 h2), if_neg h3])⟩
theorem both_CLAMP3 (vs : List V) (a b c : Int) (hs : ∀ v ∈ vs, v.short 4294967) (hlen : vs.length = 3) (hnum : nums vs [] = ([a, b, c], 0)) (ha : -999999999999999999 ≤ a ∧ a ≤ 999999999999999999) (hb : -999999999999999999 ≤ b ∧ b ≤ 999999999999999999) (hc : -999999999999999999 ≤ c ∧ c ≤ 999999999999999999) : ∃ v, Both ⟨#[67, 76, 65, 77, 80]⟩ vs v := by
  by_cases h : c < b
  · exact ⟨V.fail 2, fun g cap w hG hT hA => by rw [hlen]; exact call_CLAMP3z vs g cap a b c _ w hG hT hA hs hlen hnum ha hb hc h (rfl), fun g cap w hA => by rw [hlen]; exact refCall_CLAMP3f vs g cap a b c _ w hA hs hlen hnum ha hb hc h (rfl)⟩
  by_cases h1 : a < b
  · exact ⟨V.num (max (min a c) b), fun g cap w hG hT hA => by rw [hlen]; exact call_CLAMP3 vs g cap a b c _ w hG hT hA hs hlen hnum ha hb hc h (rfl), fun g cap w hA => by rw [hlen]; exact refCall_CLAMP3b vs g cap a b c _ w hA hs hlen hnum ha hb hc ⟨h, h1⟩ (congrArg V.num (by omega))⟩
  by_cases h2 : c < a
  · exact ⟨V.num (max (min a c) b), fun g cap w hG hT hA => by rw [hlen]; exact call_CLAMP3 vs g cap a b c _ w hG hT hA hs hlen hnum ha hb hc h (rfl), fun g cap w hA => by rw [hlen]; exact refCall_CLAMP3c vs g cap a b c _ w hA hs hlen hnum ha hb hc ⟨h, h1, h2⟩ (congrArg V.num (by omega))⟩
  · exact ⟨V.num (max (min a c) b), fun g cap w hG hT hA => by rw [hlen]; exact call_CLAMP3 vs g cap a b c _ w hG hT hA hs hlen hnum ha hb hc h (rfl), fun g cap w hA => by rw [hlen]; exact refCall_CLAMP3a vs g cap a b c _ w hA hs hlen hnum ha hb hc ⟨h, h1, h2⟩ (congrArg V.num (by omega))⟩
theorem both_GCD (vs : List V) (l : List Int) (hs : ∀ v ∈ vs, v.short 4294967) (hn1 : 1 ≤ vs.length) (hn2 : vs.length ≤ 30) (hnum : nums vs [] = (l, 0)) (hl : ∀ a ∈ l, -999999999999999999 ≤ a ∧ a ≤ 999999999999999999) (hll : l.length = vs.length) : ∃ v, Both ⟨#[71, 67, 68]⟩ vs v :=
  ⟨manyF true none l, fun g cap w hG _ hA => call_GCDn vs g cap l _ w hG hA hs hn1 hn2 hnum hl hll rfl, fun g cap w hA => refCall_GCD vs g cap l _ w hA hs hn1 hn2 hnum hl hll rfl⟩
theorem both_LCM (vs : List V) (l : List Int) (hs : ∀ v ∈ vs, v.short 4294967) (hn1 : 1 ≤ vs.length) (hn2 : vs.length ≤ 30) (hnum : nums vs [] = (l, 0)) (hl : ∀ a ∈ l, -999999999999999999 ≤ a ∧ a ≤ 999999999999999999) (hll : l.length = vs.length) : ∃ v, Both ⟨#[76, 67, 77]⟩ vs v :=
  ⟨manyF false none l, fun g cap w hG _ hA => call_LCMn vs g cap l _ w hG hA hs hn1 hn2 hnum hl hll rfl, fun g cap w hA => refCall_LCM vs g cap l _ w hA hs hn1 hn2 hnum hl hll rfl⟩
/-- what numbers come to: a failure, or all of them -/
theorem nums_cases (vs : List V) (hg : ∀ v ∈ vs, v.good) : ∀ acc : List Int, (∀ a ∈ acc, -999999999999999999 ≤ a ∧ a ≤ 999999999999999999) → (∃ f, f ≠ 0 ∧ nums vs acc = ([], f)) ∨ ∃ l, nums vs acc = (l, 0) ∧ l.length = acc.length + vs.length ∧ ∀ a ∈ l, -999999999999999999 ≤ a ∧ a ≤ 999999999999999999 := by
  induction vs with
  | nil => intro acc ha; exact .inr ⟨acc, rfl, by simp, ha⟩
  | cons v t ih =>
    intro acc ha
    obtain ⟨n, f, hf⟩ : ∃ n f, v.asNum = (n, f) := ⟨_, _, rfl⟩
    rw [nums_cons _ _ _ _ _ hf]
    by_cases h0 : f = 0
    · rw [if_pos h0]
      have hb := asNum_bd v (hg v (by simp))
      rw [hf] at hb
      rcases ih (fun u hu => hg u (by simp [hu])) (acc ++ [n]) (fun a h => by
        rcases List.mem_append.1 h with h | h
        · exact ha a h
        · obtain rfl : a = n := by simpa using h
          exact hb) with h | ⟨l, h1, h2, h3⟩
      · exact .inl h
      · exact .inr ⟨l, h1, by rw [h2]; simp; omega, h3⟩
    · rw [if_neg h0]; exact .inl ⟨f, h0, rfl⟩
theorem one_of (l : List Int) (h : l.length = 1) : ∃ a, l = [a] := by
  match l, h with
  | [a], _ => exact ⟨a, rfl⟩
theorem two_of (l : List Int) (h : l.length = 2) : ∃ a b, l = [a, b] := by
  match l, h with
  | [a, b], _ => exact ⟨a, b, rfl⟩
theorem three_of (l : List Int) (h : l.length = 3) : ∃ a b c, l = [a, b, c] := by
  match l, h with
  | [a, b, c], _ => exact ⟨a, b, c, rfl⟩
theorem name_of (s : ByteArray) (t : List UInt8) (h : (s.toList == t) = true) : s = ⟨t.toArray⟩ := by
  have e : s.toList = t := by simpa using h
  rw [← e]
  obtain ⟨d⟩ := s
  simp [ByteArray.toList_eq]
theorem limI_bd (i : Nat) (hi : i < 20) : (limI i).1 ≤ 30 ∧ 0 < (limI i).2 ∧ (limI i).2 ≤ 30 ∧ 1 ≤ (limI i).1 := by
  have hcc : i = 0 ∨ i = 1 ∨ i = 2 ∨ i = 3 ∨ i = 4 ∨ i = 5 ∨ i = 6 ∨ i = 7 ∨ i = 8 ∨ i = 9 ∨ i = 10 ∨ i = 11 ∨ i = 12 ∨ i = 13 ∨ i = 14 ∨ i = 15 ∨ i = 16 ∨ i = 17 ∨ i = 18 ∨ i = 19 := by omega
  rcases hcc with rfl | rfl | rfl | rfl | rfl | rfl | rfl | rfl | rfl | rfl | rfl | rfl | rfl | rfl | rfl | rfl | rfl | rfl | rfl | rfl <;> decide
theorem both_any (s : ByteArray) (vs : List V) (hs : ∀ v ∈ vs, v.short 4294967) (hg : ∀ v ∈ vs, v.good) : ∃ v, Both s vs v := by
  have hex : (∀ j, j < 20 → (s.toList == nameL.getD j []) = false) ∨ ∃ i, i < 20 ∧ (s.toList == nameL.getD i []) = true ∧ ∀ j, j < i → (s.toList == nameL.getD j []) = false := by
    by_cases hh : ∃ i, i < 20 ∧ (s.toList == nameL.getD i []) = true
    · right
      obtain ⟨i, hi⟩ := hh
      induction i using Nat.strongRecOn with
      | _ i ih =>
        by_cases h2 : ∀ j, j < i → (s.toList == nameL.getD j []) = false
        · exact ⟨i, hi.1, hi.2, h2⟩
        · simp only [Classical.not_forall] at h2
          obtain ⟨j, hj, hj2⟩ := h2
          exact ih j hj ⟨by omega, by simpa using hj2⟩
    · left
      intro j hj
      by_cases h2 : (s.toList == nameL.getD j []) = true
      · exact absurd ⟨j, hj, h2⟩ hh
      · simpa using h2
  rcases hex with h | ⟨i, hi, he, hlt⟩
  · have hl := lim_none s h
    exact ⟨V.fail 6, fun g cap w _ _ _ => call_unknown s _ _ _ w hl, fun g cap w _ => refCall_unknown s _ _ _ w hl⟩
  have hl := lim_some s i hi hlt he
  have hlo : (limI i).1 ≤ 30 ∧ 0 < (limI i).2 ∧ (limI i).2 ≤ 30 ∧ 1 ≤ (limI i).1 := limI_bd i hi
  obtain ⟨lo, hx, hlim⟩ : ∃ lo hx, limI i = (lo, hx) := ⟨_, _, rfl⟩
  rw [hlim] at hl hlo
  obtain ⟨hl1, hl2, hl3, hl4⟩ := hlo
  simp only at hl1 hl2 hl3 hl4
  by_cases hc : (vs.length : Int) < lo ∨ hx < vs.length
  · exact ⟨V.fail 3, fun g cap w _ _ _ => call_count s _ _ _ lo hx w hl hl2 hc, fun g cap w _ => refCall_count s _ _ _ lo hx w hl hl2 hc⟩
  rcases nums_cases vs hg [] (by simp) with ⟨f, hf, hn⟩ | ⟨l, hn, hll, hlb⟩
  · exact ⟨V.fail f, fun g cap w hG _ hA => call_fail s vs g cap lo hx f w hG hA hs hl hl2 hl3 (by omega) hn hf, fun g cap w hA => refCall_fail s vs g cap lo hx f w hA hs hl hl2 hl3 (by omega) hn hf⟩
  have hll2 : l.length = vs.length := by simpa using hll
  have es := name_of s _ he
  rw [es]
  clear hlt he hl es hll
  have hcc : i = 0 ∨ i = 1 ∨ i = 2 ∨ i = 3 ∨ i = 4 ∨ i = 5 ∨ i = 6 ∨ i = 7 ∨ i = 8 ∨ i = 9 ∨ i = 10 ∨ i = 11 ∨ i = 12 ∨ i = 13 ∨ i = 14 ∨ i = 15 ∨ i = 16 ∨ i = 17 ∨ i = 18 ∨ i = 19 := by omega
  rcases hcc with rfl | rfl | rfl | rfl | rfl | rfl | rfl | rfl | rfl | rfl | rfl | rfl | rfl | rfl | rfl | rfl | rfl | rfl | rfl | rfl
  · obtain ⟨rfl, rfl⟩ := Prod.mk.inj hlim
    clear hlim
    obtain ⟨a, rfl⟩ := one_of l (by omega)
    exact both_ABS1 vs a hs (by simpa using hll2.symm) hn (hlb a (by simp))
  · obtain ⟨rfl, rfl⟩ := Prod.mk.inj hlim
    clear hlim
    obtain ⟨a, rfl⟩ := one_of l (by omega)
    exact both_SIGN1 vs a hs (by simpa using hll2.symm) hn (hlb a (by simp))
  · obtain ⟨rfl, rfl⟩ := Prod.mk.inj hlim
    clear hlim
    obtain ⟨a, rfl⟩ := one_of l (by omega)
    exact both_INT1 vs a hs (by simpa using hll2.symm) hn (hlb a (by simp))
  · obtain ⟨rfl, rfl⟩ := Prod.mk.inj hlim
    clear hlim
    obtain ⟨a, rfl⟩ := one_of l (by omega)
    exact both_SQRT1 vs a hs (by simpa using hll2.symm) hn (hlb a (by simp))
  · obtain ⟨rfl, rfl⟩ := Prod.mk.inj hlim
    clear hlim
    obtain ⟨a, rfl⟩ := one_of l (by omega)
    exact both_FACT1 vs a hs (by simpa using hll2.symm) hn (hlb a (by simp))
  · obtain ⟨rfl, rfl⟩ := Prod.mk.inj hlim
    clear hlim
    obtain ⟨a, rfl⟩ := one_of l (by omega)
    exact both_EVEN1 vs a hs (by simpa using hll2.symm) hn (hlb a (by simp))
  · obtain ⟨rfl, rfl⟩ := Prod.mk.inj hlim
    clear hlim
    obtain ⟨a, rfl⟩ := one_of l (by omega)
    exact both_ODD1 vs a hs (by simpa using hll2.symm) hn (hlb a (by simp))
  · obtain ⟨rfl, rfl⟩ := Prod.mk.inj hlim
    clear hlim
    by_cases h1 : vs.length = 1
    · obtain ⟨a, rfl⟩ := one_of l (by omega)
      exact both_TRUNC1 vs a hs (by simpa using hll2.symm) hn (hlb a (by simp))
    · obtain ⟨a, b, rfl⟩ := two_of l (by omega)
      exact both_TRUNC2 vs a b hs (by simpa using hll2.symm) hn (hlb a (by simp)) (hlb b (by simp))
  · obtain ⟨rfl, rfl⟩ := Prod.mk.inj hlim
    clear hlim
    by_cases h1 : vs.length = 1
    · obtain ⟨a, rfl⟩ := one_of l (by omega)
      exact both_FLOOR1 vs a hs (by simpa using hll2.symm) hn (hlb a (by simp))
    · obtain ⟨a, b, rfl⟩ := two_of l (by omega)
      exact both_FLOOR2 vs a b hs (by simpa using hll2.symm) hn (hlb a (by simp)) (hlb b (by simp))
  · obtain ⟨rfl, rfl⟩ := Prod.mk.inj hlim
    clear hlim
    by_cases h1 : vs.length = 1
    · obtain ⟨a, rfl⟩ := one_of l (by omega)
      exact both_CEILING1 vs a hs (by simpa using hll2.symm) hn (hlb a (by simp))
    · obtain ⟨a, b, rfl⟩ := two_of l (by omega)
      exact both_CEILING2 vs a b hs (by simpa using hll2.symm) hn (hlb a (by simp)) (hlb b (by simp))
  · obtain ⟨rfl, rfl⟩ := Prod.mk.inj hlim
    clear hlim
    by_cases h1 : vs.length = 1
    · obtain ⟨a, rfl⟩ := one_of l (by omega)
      exact both_ROUND1 vs a hs (by simpa using hll2.symm) hn (hlb a (by simp))
    · obtain ⟨a, b, rfl⟩ := two_of l (by omega)
      exact both_ROUND2 vs a b hs (by simpa using hll2.symm) hn (hlb a (by simp)) (hlb b (by simp))
  · obtain ⟨rfl, rfl⟩ := Prod.mk.inj hlim
    clear hlim
    by_cases h1 : vs.length = 1
    · obtain ⟨a, rfl⟩ := one_of l (by omega)
      exact both_ROUNDUP1 vs a hs (by simpa using hll2.symm) hn (hlb a (by simp))
    · obtain ⟨a, b, rfl⟩ := two_of l (by omega)
      exact both_ROUNDUP2 vs a b hs (by simpa using hll2.symm) hn (hlb a (by simp)) (hlb b (by simp))
  · obtain ⟨rfl, rfl⟩ := Prod.mk.inj hlim
    clear hlim
    by_cases h1 : vs.length = 1
    · obtain ⟨a, rfl⟩ := one_of l (by omega)
      exact both_ROUNDDOWN1 vs a hs (by simpa using hll2.symm) hn (hlb a (by simp))
    · obtain ⟨a, b, rfl⟩ := two_of l (by omega)
      exact both_ROUNDDOWN2 vs a b hs (by simpa using hll2.symm) hn (hlb a (by simp)) (hlb b (by simp))
  · obtain ⟨rfl, rfl⟩ := Prod.mk.inj hlim
    clear hlim
    obtain ⟨a, b, rfl⟩ := two_of l (by omega)
    exact both_MROUND2 vs a b hs (by simpa using hll2.symm) hn (hlb a (by simp)) (hlb b (by simp))
  · obtain ⟨rfl, rfl⟩ := Prod.mk.inj hlim
    clear hlim
    obtain ⟨a, b, rfl⟩ := two_of l (by omega)
    exact both_MOD2 vs a b hs (by simpa using hll2.symm) hn (hlb a (by simp)) (hlb b (by simp))
  · obtain ⟨rfl, rfl⟩ := Prod.mk.inj hlim
    clear hlim
    obtain ⟨a, b, rfl⟩ := two_of l (by omega)
    exact both_QUOTIENT2 vs a b hs (by simpa using hll2.symm) hn (hlb a (by simp)) (hlb b (by simp))
  · obtain ⟨rfl, rfl⟩ := Prod.mk.inj hlim
    clear hlim
    obtain ⟨a, b, rfl⟩ := two_of l (by omega)
    exact both_POWER2 vs a b hs (by simpa using hll2.symm) hn (hlb a (by simp)) (hlb b (by simp))
  · obtain ⟨rfl, rfl⟩ := Prod.mk.inj hlim
    clear hlim
    obtain ⟨a, b, c, rfl⟩ := three_of l (by omega)
    exact both_CLAMP3 vs a b c hs (by simpa using hll2.symm) hn (hlb a (by simp)) (hlb b (by simp)) (hlb c (by simp))
  · obtain ⟨rfl, rfl⟩ := Prod.mk.inj hlim
    clear hlim
    exact both_GCD vs l hs (by omega) (by omega) hn hlb hll2
  · obtain ⟨rfl, rfl⟩ := Prod.mk.inj hlim
    clear hlim
    exact both_LCM vs l hs (by omega) (by omega) hn hlb hll2
end Go.Proofs.YtkobkeopajohiaaGreatDoor
