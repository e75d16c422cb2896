/-
  THE WALK of the law MathsFails, with its guards.
-/
import Derived.Test.YtkobkeopajohiaaDoorMathsFailsW
namespace Go.Proofs.YtkobkeopajohiaaDoor
open Go.RowKit Go.Lib

set_option maxHeartbeats 1600000 in
set_option maxRecDepth 100000 in
theorem mathsFails_guard (s : ByteArray) (ad : Option Addr) (len cap m : Nat) (hm : m = min len 2) (hlc : len ≤ cap) (hcap : cap ≤ 9223372036854775807) (n k : Int) (hg : n < 1 ∨ (1 ≤ n ∧ 7 < n) ∨ ((1 ≤ n ∧ n ≤ 7) ∧ k < 0) ∨ ((1 ≤ n ∧ n ≤ 7) ∧ 0 ≤ k ∧ (m : Int) < k)) (w : World) (hM : GM w) (hT : GT w) :
    Calls Tryd.prog 12 #[.string s, .slice ad len cap, .int .i64 n, .int .i64 k] w fun e w' => e = .returned (.bool true) ∧ Below w.heap.size w w' := by
  have HAW := Lib.hid fun w hM hT => awake16 w hM hT
  have HFew := Lib.hid fun w => few_any ad len cap m hm hlc hcap w
  have HM := Lib.hid hM
  have HT := Lib.hid hT
  have hm2 : m ≤ 2 := by omega
  clear hM hT hm hlc hcap
  rcases hg with h | ⟨h1, h⟩ | ⟨⟨h1, h2⟩, h⟩ | ⟨⟨h1, h2⟩, h3, h⟩
  all_goals
    go_enter Tryd.func12, Tryd.ntmps12
    go_wp2_with (first | (go_at_call 42; fail))
    go_at_call 42
    refine (HFew.out _).mono ?_
    rintro e w' ⟨c0, rfl, hc0, rfl⟩
    go_wp2_with (first | (go_at_call 40; fail))
    go_at_call 40
    refine (HAW.out _ HM.out HT.out).mono ?_
    rintro e w4 ⟨rfl, hb4⟩
    go_wp2
    go_ret
    exact ⟨rfl, hb4⟩
theorem mathsFails_walk (w : World) (s : ByteArray) (_hs : s.size ≤ maxLen) (ad : Option Addr) (len cap : Nat) (ps : List P) (hlc : len ≤ cap) (hcap : cap ≤ maxLen) (hl : ps.length = len) (_hf : ∀ p ∈ ps, p.fits) (hps : 0 < len → ∃ b off, ad = some ⟨b, off, none⟩ ∧ PlainsAt w b off ps)
    (n : Int) (_hn : -9223372036854775808 ≤ n ∧ n ≤ 9223372036854775807) (k : Int) (_hk : -9223372036854775808 ≤ k ∧ k ≤ 9223372036854775807) (hM : GM w) (hT : GT w) (hU : Lib.Utf8Tabs 5 6 w) (h7 : 6 < w.heap.size) :
    Calls Tryd.prog 12 #[.string s, .slice ad len cap, .int .i64 n, .int .i64 k] w fun e w' => e = .returned (.bool true) ∧ Below w.heap.size w w' := by
  have hcap' : cap ≤ 9223372036854775807 := hcap
  by_cases hg : n < 1 ∨ (1 ≤ n ∧ 7 < n) ∨ ((1 ≤ n ∧ n ≤ 7) ∧ k < 0) ∨ ((1 ≤ n ∧ n ≤ 7) ∧ 0 ≤ k ∧ ((min len 2 : Nat) : Int) < k)
  · exact mathsFails_guard s ad len cap _ rfl hlc hcap' n k hg w hM hT
  · have h1 : 1 ≤ n := by omega
    have h2 : n ≤ 7 := by omega
    obtain ⟨q, rfl⟩ : ∃ q : Nat, k = q := ⟨k.toNat, by omega⟩
    have hlen : (ps.take 2).length = min len 2 := by rw [List.length_take, hl]; omega
    refine mathsFails_main s ad len cap (ps.take 2) hlen hlc hcap' n q ⟨h1, h2⟩ (by omega) w hM hT hU h7 fun h0 => ?_
    obtain ⟨b, off, e, hp⟩ := hps (by omega)
    exact ⟨b, off, e, plains_take 2 hp⟩
end Go.Proofs.YtkobkeopajohiaaDoor
