/-
  PLAIN DATA; a number's draws; the law's Cut; a sum (out of other texts, so that a claim needs fewer).
  PLAIN DATA AS VALUES: the kinds.
  PLAIN DATA AS VALUES: failures.
  PLAIN DATA THAT COME IN: a slice of them, opened.
  PLAIN DATA AS A VALUE, WHATEVER THEY ARE.
  A PLAIN DATUM THAT COMES IN, by value: opened; how long its text is.
-/
import Derived.Test.YtkobkeopajohiaaGreatDoorVA
import Derived.Test.YtkobkeopajohiaaGreatDoorVB
import Derived.Test.YtkobkeopajohiaaGreatDoorRR
import Derived.Deep.QuietTactic
import Derived.BigQuiet
import Derived.Deep.RegionWith
import Derived.Deep.RegionHeld3
import Derived.Deep.Slices
import Derived.Lib.SmallJoins
import Derived.SizedLaws
import Derived.OpenShut
namespace Go.Proofs.YtkobkeopajohiaaGreatDoor
open Go.RowKit Go.Lib

theorem below_drewN {B : Nat} {a w : World} (h : Below B a w) (k : Nat) : Below B a (w.drewN k) := ⟨h.os, h.tape, h.output, h.size, h.block⟩
/-- plain data -/
structure P where
  kind : Int
  n : Int
  s : ByteArray
def P.val (p : P) : Value := .agg #[.int .i64 p.kind, .int .i64 p.n, .string p.s]
/-- with its text cut -/
def P.cut (p : P) (n : Nat) : P := ⟨p.kind, p.n, ⟨(p.s.data.toList.take n).toArray⟩⟩
def PlainsAt (w : World) (b off : Nat) (ps : List P) : Prop := b < w.heap.size ∧ ∀ k p, ps[k]? = some p →
  w.cell? ⟨b, off + k * 3, none⟩ = some (.int .i64 p.kind) ∧ w.cell? ⟨b, off + k * 3 + 1, none⟩ = some (.int .i64 p.n) ∧ w.cell? ⟨b, off + k * 3 + 2, none⟩ = some (.string p.s)
theorem PlainsAt.below {w w' : World} {b off : Nat} {ps : List P} {B : Nat} (h : PlainsAt w b off ps) (hb : Below B w w') (hB : b < B) : PlainsAt w' b off ps :=
  ⟨Nat.lt_of_lt_of_le h.1 hb.size, fun k p e => ⟨(hb.cell hB).trans (h.2 k p e).1, (hb.cell hB).trans (h.2 k p e).2.1, (hb.cell hB).trans (h.2 k p e).2.2⟩⟩
theorem size_cut (s : ByteArray) (n : Nat) : (⟨(s.data.toList.take n).toArray⟩ : ByteArray).data.toList = s.data.toList.take n := rfl

end Go.Proofs.YtkobkeopajohiaaGreatDoor
namespace Go.Proofs.YtkobkeopajohiaaGreatDoor
open Go.RowKit Go.Lib

set_option maxRecDepth 100000 in
theorem of_num_no (n : Int) (w : World) (s : ByteArray) (h : ¬ (-999999999999999999 ≤ n ∧ n ≤ 999999999999999999)) :
    Calls Tryz.prog 60 #[.agg #[.int .i64 1, .int .i64 n, .string s]] w fun e w' => e = .returned V.blank.val ∧ Below w.heap.size w w' := by
  have HG := Lib.hid fun w => good_no n w h
  clear h
  go_enter Tryz.func60, Tryz.ntmps60
  go_wp2_with (first | (go_at_call 124; refine (HG.out _).mono ?_; rintro e w' ⟨rfl, rfl⟩))
  go_ret
  exact ⟨rfl, by go_grown⟩
set_option maxRecDepth 100000 in
theorem of_bool (n : Int) (b : Bool) (w : World) (s : ByteArray) (h : (n == 1) = b) :
    Calls Tryz.prog 60 #[.agg #[.int .i64 3, .int .i64 n, .string s]] w fun e w' => e = .returned (V.bool b).val ∧ Below w.heap.size w w' := by
  have HB := Lib.hid h
  clear h
  go_enter Tryz.func60, Tryz.ntmps60
  go_wp2
  go_ret
  exact ⟨by rw [← HB.out]; rfl, by go_grown⟩
set_option maxRecDepth 100000 in
theorem of_other (k n : Int) (w : World) (s : ByteArray) (h1 : (k == 1) = false) (h2 : (k == 2) = false) (h3 : (k == 3) = false) (h4 : (k == 4) = false) :
    Calls Tryz.prog 60 #[.agg #[.int .i64 k, .int .i64 n, .string s]] w fun e w' => e = .returned V.blank.val ∧ Below w.heap.size w w' := by
  go_enter Tryz.func60, Tryz.ntmps60
  go_wp2
  all_goals go_ret
  all_goals exact ⟨rfl, by go_grown⟩
set_option maxRecDepth 100000 in
theorem of_text_no (m n : Int) (ok : Bool) (s : ByteArray) (w : World) (hs : Calls Tryz.prog 125 #[.string s] (w.alloc (.cells #[.int .i64 2, .int .i64 n, .string s] 41)) fun e w' => e = .returned (.tuple #[.int .i64 m, .bool ok]) ∧ Below (w.alloc (.cells #[.int .i64 2, .int .i64 n, .string s] 41)).heap.size (w.alloc (.cells #[.int .i64 2, .int .i64 n, .string s] 41)) w') (hz : ok = false ∨ 2000 < s.size) :
    Calls Tryz.prog 60 #[.agg #[.int .i64 2, .int .i64 n, .string s]] w fun e w' => e = .returned V.blank.val ∧ Below w.heap.size w w' := by
  have HS := Lib.hid hs
  clear hs
  have key : ok = false ∨ (ok = true ∧ 2000 < s.size) := by
    cases ok
    · exact .inl rfl
    · exact .inr ⟨rfl, by simpa using hz⟩
  clear hz
  rcases key with rfl | ⟨rfl, hz⟩
  all_goals
    go_enter Tryz.func60, Tryz.ntmps60
    go_wp2_with (first | (go_at_call 125; fail))
    go_at_call 125
    refine HS.out.mono ?_
    rintro e w1 ⟨rfl, hb⟩
    have hc0 : w1.cell? ⟨w.heap.size, 2, none⟩ = some (.string s) := (hb.cell (by simp)).trans (by rw [World.cell?_alloc_at _ _ _ _ rfl]; rfl)
    have hb' : Below w.heap.size w w1 := ((Below.refl _ _).alloc (Nat.le_refl _) _).trans (hb.mono (by simp))
    clear hb
    go_wp2
    go_ret
    exact ⟨rfl, hb'⟩
set_option maxHeartbeats 1600000 in
set_option maxRecDepth 100000 in
theorem of_fail_low (n : Int) (w : World) (s : ByteArray) (h : n < 1) :
    Calls Tryz.prog 60 #[.agg #[.int .i64 4, .int .i64 n, .string s]] w fun e w' => e = .returned V.blank.val ∧ Below w.heap.size w w' := by
  have hd : decide (1 ≤ n) = false := decide_eq_false (by omega)
  have hc1 : (w.alloc (.cells #[.int .i64 4, .int .i64 n, .string s] 41)).cell? ⟨w.heap.size, 1, none⟩ = some (.int .i64 n) := by rw [World.cell?_alloc_at _ _ _ _ rfl]; rfl
  go_enter Tryz.func60, Tryz.ntmps60
  go_wp2
  go_quiet (fail)
  go_wp2
  all_goals go_ret
  all_goals exact ⟨rfl, below_drewN ((Below.refl _ _).alloc (Nat.le_refl _) _) _⟩
end Go.Proofs.YtkobkeopajohiaaGreatDoor
namespace Go.Proofs.YtkobkeopajohiaaGreatDoor
open Go.RowKit Go.Lib

set_option maxHeartbeats 1600000 in
set_option maxRecDepth 100000 in
theorem of_fail (n : Int) (w : World) (s : ByteArray) (h : 1 ≤ n) (h7 : n ≤ 7) :
    Calls Tryz.prog 60 #[.agg #[.int .i64 4, .int .i64 n, .string s]] w fun e w' => e = .returned (V.fail n).val ∧ Below w.heap.size w w' := by
  have hd : decide (1 ≤ n) = true := decide_eq_true (by omega)
  have HE := Lib.hid fun w => errors_any w
  have hc1 : (w.alloc (.cells #[.int .i64 4, .int .i64 n, .string s] 41)).cell? ⟨w.heap.size, 1, none⟩ = some (.int .i64 n) := by rw [World.cell?_alloc_at _ _ _ _ rfl]; rfl
  go_enter Tryz.func60, Tryz.ntmps60
  go_wp2
  go_region_held3 (fun w' => w'.cell? ⟨w.heap.size, 1, none⟩ = some (.int .i64 n)) (first | go_keep | (refine (‹Below _ _ _›.cell ?_).trans ?_ <;> first | assumption | (simp; done) | (simp; omega))) (first | (go_at_call 111; refine (HE.out _).mono ?_; rintro e w2 ⟨g, rfl, hb⟩))
  go_wp2
  all_goals go_ret
  all_goals exact ⟨rfl, (((Below.refl _ _).alloc (Nat.le_refl _) _).drew).trans (Below.mono ‹_› (by simp))⟩
set_option maxHeartbeats 1600000 in
set_option maxRecDepth 100000 in
theorem of_fail_high (n : Int) (w : World) (s : ByteArray) (h7 : 7 < n) :
    Calls Tryz.prog 60 #[.agg #[.int .i64 4, .int .i64 n, .string s]] w fun e w' => e = .returned V.blank.val ∧ Below w.heap.size w w' := by
  have hd : decide (1 ≤ n) = true := decide_eq_true (by omega)
  have HE := Lib.hid fun w => errors_any w
  have hc1 : (w.alloc (.cells #[.int .i64 4, .int .i64 n, .string s] 41)).cell? ⟨w.heap.size, 1, none⟩ = some (.int .i64 n) := by rw [World.cell?_alloc_at _ _ _ _ rfl]; rfl
  go_enter Tryz.func60, Tryz.ntmps60
  go_wp2
  go_region_held3 (fun w' => w'.cell? ⟨w.heap.size, 1, none⟩ = some (.int .i64 n)) (first | go_keep | (refine (‹Below _ _ _›.cell ?_).trans ?_ <;> first | assumption | (simp; done) | (simp; omega))) (first | (go_at_call 111; refine (HE.out _).mono ?_; rintro e w2 ⟨g, rfl, hb⟩))
  go_wp2
  all_goals go_ret
  all_goals exact ⟨rfl, (((Below.refl _ _).alloc (Nat.le_refl _) _).drew).trans (Below.mono ‹_› (by simp))⟩
end Go.Proofs.YtkobkeopajohiaaGreatDoor
namespace Go.Proofs.YtkobkeopajohiaaGreatDoor
open Go.RowKit Go.Lib Go.Deep

instance : Inhabited P := ⟨⟨0, 0, ByteArray.empty⟩⟩
theorem cells75 : Tryz.prog.cellsOf 41 = 3 := by kernel_rfl
theorem cells3 : Tryz.prog.cellsOf 3 = 1 := by kernel_rfl
theorem cells22 : Tryz.prog.cellsOf 39 = 1 := by kernel_rfl
theorem cells9 : Tryz.prog.cellsOf 9 = 1 := by kernel_rfl
/-- within the bounds of its fields' types -/
def P.fits (p : P) : Prop := (-9223372036854775808 ≤ p.kind ∧ p.kind ≤ 9223372036854775807) ∧ (-9223372036854775808 ≤ p.n ∧ p.n ≤ 9223372036854775807) ∧ p.s.size ≤ maxLen
set_option maxRecDepth 100000 in
theorem open_plains {H : Type} {enc : TypeId × Value → H} {w : World} {base fuel : Nat} {held : Bool} {cs : List Value} {x : DataW H × List MemPlace} (h : DataW.trod enc Tryz.prog w base (fun _ => true) held fuel 22 cs = some x) :
    ∃ (a : Option Addr) (len cap : Nat) (ps : List P), cs = [.slice a len cap] ∧ len ≤ cap ∧ cap ≤ maxLen ∧ ps.length = len ∧ (∀ p ∈ ps, p.fits) ∧ (0 < len → ∃ b off, a = some ⟨b, off, none⟩ ∧ PlainsAt w b off ps) := by
  rcases open_slice Tryz.underlying22 h with ⟨rfl, _⟩ | ⟨a, len, cap, m, n, D, Pl, rfl, hb, hl, hm, hmm, rfl, hx⟩
  · exact ⟨none, 0, 0, [], rfl, Nat.le_refl _, Nat.zero_le _, rfl, fun p hp => by simp at hp, fun h => absurd h (by omega)⟩
  have each : ∀ i, i < len → ∃ p : P, p.fits ∧ w.cell? (a.add (i * 3)) = some (.int .i64 p.kind) ∧ w.cell? (a.add (i * 3 + 1)) = some (.int .i64 p.n) ∧ w.cell? (a.add (i * 3 + 2)) = some (.string p.s) := by
    intro i hi
    obtain ⟨cs', h1, h2⟩ := hx i (by rw [hmm]; simp; omega)
    rw [cells75] at h1
    obtain ⟨_, hlen, hcell⟩ := World.cells?_some h1
    obtain ⟨y0, y1, y2, k, hxy, _, g0, g1, g2⟩ := trod_struct3 Tryz.underlying41 h2
    match cs', hlen with
    | [v0, v1, v2], _ =>
      simp [cells3, cells22, cells9] at g0 g1 g2
      obtain ⟨z0, e0, _, w0⟩ := DataW.trod_int Tryz.underlying3 g0
      obtain ⟨z1, e1, _, w1⟩ := DataW.trod_int Tryz.underlying39 g1
      obtain ⟨z2, e2, _, w2⟩ := DataW.trod_string Tryz.underlying9 g2
      simp at e0 e1 e2
      subst e0 e1 e2
      have c0 := hcell 0 (by omega)
      have c1 := hcell 1 (by omega)
      have c2 := hcell 2 (by omega)
      rw [add_add] at c0 c1 c2
      exact ⟨⟨z0, z1, z2⟩, ⟨bounds_i64 w0, bounds_i64 w1, w2⟩, by simpa using c0, by simpa using c1, by simpa using c2⟩
  obtain ⟨f, hf⟩ := choose_lt each
  refine ⟨some a, len, cap, (List.range len).map f, rfl, hl, hm, by simp, fun p hp => ?_, fun h0 => ?_⟩
  · obtain ⟨i, hi, rfl⟩ := List.mem_map.1 hp
    exact (hf i (by simpa using hi)).1
  · obtain ⟨b, off, spot⟩ := a
    have hspot : spot = none := by simpa [Addr.add] using World.cell?_spot (hf 0 h0).2.1
    subst hspot
    refine ⟨b, off, rfl, lt_of_cell (hf 0 h0).2.1, fun k p hk => ?_⟩
    have hk' : k < len := by have := (List.getElem?_eq_some_iff.1 hk).1; simpa using this
    have hp : p = f k := by simpa [hk'] using hk.symm
    subst hp
    obtain ⟨_, c0, c1, c2⟩ := hf k hk'
    rw [Go.WideShapes.add_plain] at c0 c1 c2
    exact ⟨c0, c1, by simpa [Nat.add_assoc] using c2⟩
end Go.Proofs.YtkobkeopajohiaaGreatDoor
namespace Go.Proofs.YtkobkeopajohiaaGreatDoor
open Go.RowKit Go.Lib

set_option maxRecDepth 100000 in
theorem of_text_yes (m n : Int) (s : ByteArray) (w : World) (hs : Calls Tryz.prog 125 #[.string s] (w.alloc (.cells #[.int .i64 2, .int .i64 n, .string s] 41)) fun e w' => e = .returned (.tuple #[.int .i64 m, .bool true]) ∧ Below (w.alloc (.cells #[.int .i64 2, .int .i64 n, .string s] 41)).heap.size (w.alloc (.cells #[.int .i64 2, .int .i64 n, .string s] 41)) w') (hz : s.size ≤ 2000) :
    Calls Tryz.prog 60 #[.agg #[.int .i64 2, .int .i64 n, .string s]] w fun e w' => e = .returned (V.text s).val ∧ Below w.heap.size w w' := by
  have HS := Lib.hid hs
  clear hs
  go_enter Tryz.func60, Tryz.ntmps60
  go_wp2_with (first | (go_at_call 125; fail))
  go_at_call 125
  refine HS.out.mono ?_
  rintro e w1 ⟨rfl, hb⟩
  have hc0 : w1.cell? ⟨w.heap.size, 2, none⟩ = some (.string s) := (hb.cell (by simp)).trans (by rw [World.cell?_alloc_at _ _ _ _ rfl]; rfl)
  have hb' : Below w.heap.size w w1 := ((Below.refl _ _).alloc (Nat.le_refl _) _).trans (hb.mono (by simp))
  clear hb
  go_wp2
  go_ret
  exact ⟨rfl, hb'⟩

/-- is a text all signs? -/
def signsOk (s : ByteArray) : Bool := (signsFrom s s.size 0 0).2
/-- the value of plain data -/
def P.of (p : P) : V :=
  if p.kind = 1 then (if -999999999999999999 ≤ p.n ∧ p.n ≤ 999999999999999999 then .num p.n else .blank)
  else if p.kind = 2 then (if signsOk p.s = true ∧ p.s.size ≤ 2000 then .text p.s else .blank)
  else if p.kind = 3 then .bool (p.n == 1)
  else if p.kind = 4 then (if 1 ≤ p.n ∧ p.n ≤ 7 then .fail p.n else .blank)
  else .blank
theorem of_any (p : P) (w : World) (hT : Lib.Utf8Tabs 4 5 w) (h7 : 5 < w.heap.size) (hs : p.s.size < 9223372036854775807) :
    Calls Tryz.prog 60 #[p.val] w fun e w' => e = .returned p.of.val ∧ Below w.heap.size w w' := by
  obtain ⟨k, n, s⟩ := p
  unfold P.of P.val
  simp only at hs ⊢
  by_cases h1 : k = 1
  · subst h1
    rw [if_pos rfl]
    by_cases h : -999999999999999999 ≤ n ∧ n ≤ 999999999999999999
    · rw [if_pos h]; exact of_num n w s h
    · rw [if_neg h]; exact of_num_no n w s h
  rw [if_neg h1]
  by_cases h2 : k = 2
  · subst h2
    rw [if_pos rfl]
    have HS := signs_any s (w.alloc (.cells #[.int .i64 2, .int .i64 n, .string s] 41)) (tabs_below hT ((Below.refl _ _).alloc (Nat.le_refl _) _) h7) (by simp; omega) hs _ rfl
    by_cases h : signsOk s = true ∧ s.size ≤ 2000
    · rw [if_pos h]
      have e : (signsFrom s s.size 0 0).2 = true := h.1
      rw [e] at HS
      exact of_text_yes _ n s w HS h.2
    · rw [if_neg h]
      refine of_text_no _ n _ s w HS ?_
      cases e : (signsFrom s s.size 0 0).2
      · exact .inl rfl
      · exact .inr (by have : ¬ s.size ≤ 2000 := fun h2 => h ⟨e, h2⟩; omega)
  rw [if_neg h2]
  by_cases h3 : k = 3
  · subst h3
    rw [if_pos rfl]
    exact of_bool n _ w s rfl
  rw [if_neg h3]
  by_cases h4 : k = 4
  · subst h4
    rw [if_pos rfl]
    by_cases h : 1 ≤ n ∧ n ≤ 7
    · rw [if_pos h]; exact of_fail n w s h.1 h.2
    · rw [if_neg h]
      by_cases hn : n < 1
      · exact of_fail_low n w s hn
      · exact of_fail_high n w s (by omega)
  rw [if_neg h4]
  exact of_other k n w s (by simpa using h1) (by simpa using h2) (by simpa using h3) (by simpa using h4)
theorem of_short (p : P) (n : Nat) (h : p.s.size ≤ n) : p.of.short n := by
  unfold P.of
  repeat' split
  all_goals first | exact trivial | exact h
end Go.Proofs.YtkobkeopajohiaaGreatDoor
namespace Go.Proofs.YtkobkeopajohiaaGreatDoor
open Go.RowKit Go.Lib Go.ChangeShapes Go.WideShapes

def P.data {H : Type} (p : P) : DataW H := .agg [.lit (.int .i64 p.kind), .lit (.int .i64 p.n), .lit (.string p.s.data.toList)]
set_option maxRecDepth 100000 in
theorem open_plain {H : Type} {enc : TypeId × Value → H} {w : World} {r : Reach} {b0 base : Nat} {spare : Nat → Bool} {held : Bool} {v : Value} {d : DataW H} {ps : List MemPlace} (hv : Value.okWide Tryz.prog w r b0 41 v) (h : DataW.Trod enc Tryz.prog w base spare held 41 v d ps) :
    ∃ x : P, v = x.val ∧ x.fits ∧ d = x.data := by
  obtain ⟨v0, v1, v2, y0, y1, y2, n, rfl, rfl, _, g0, g1, g2⟩ := Joins.open_agg3 Tryz.underlying41 (by kernel_rfl) cells75 hv h
  obtain ⟨z0, e0, d0, w0⟩ := DataW.trod_int Tryz.underlying3 g0
  obtain ⟨z1, e1, d1, w1⟩ := DataW.trod_int Tryz.underlying39 g1
  obtain ⟨z2, e2, d2, w2⟩ := DataW.trod_string Tryz.underlying9 g2
  simp at e0 e1 e2
  subst e0 e1 e2 d0 d1 d2
  exact ⟨⟨z0, z1, z2⟩, rfl, ⟨bounds_i64 w0, bounds_i64 w1, w2⟩, rfl⟩
theorem plain_sized {H : Type} {ts : List TypeId} {ds : List (DataW H)} (h : (DataW.weightsEach Tryz.prog ts ds).all (· ≤ reachBytes) = true) (j : Nat) (ht : ts[j]? = some 41) {x : P} (hd : ds[j]? = some x.data) : x.s.size ≤ 9223372036854775800 := by
  have := List.all_eq_true.1 h _ (DataW.weights_mem_each ht hd x.s.data.toList.length (by simp [DataW.weights, DataW.weightsEach, Tryz.underlying41, P.data]))
  have h2 : x.s.data.toList.length ≤ reachBytes := by simpa using this
  rw [← size_eq] at h2
  exact Nat.le_trans h2 (by decide)
end Go.Proofs.YtkobkeopajohiaaGreatDoor
