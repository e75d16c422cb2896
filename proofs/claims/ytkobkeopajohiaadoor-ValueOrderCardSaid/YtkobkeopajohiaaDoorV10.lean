/-
  THE LAW HELPER one OF LAYER 16: a function of two numbers.
-/
import Derived.Test.YtkobkeopajohiaaDoorV9
import Derived.Test.YtkobkeopajohiaaDoorV8
namespace Go.Proofs.YtkobkeopajohiaaDoor
open Go.RowKit Go.Lib

theorem owns_empty (w : World) : (w.alloc (.cells #[] 61)).ownsRow w.heap.size 61 4 (.slice (some ⟨w.heap.size, 0, none⟩) 0 0) 0 [] :=
  ⟨rfl, .inr ⟨w.heap.size, 0, #[], rfl, Nat.le_refl _, last_block _ _ _ rfl, Nat.le_refl _, Nat.zero_le _, rfl, rfl⟩⟩
theorem news_block (w : World) (cs : List Value) (T : TypeId) : ∀ (j : Nat) (u : Value), cs[j]? = some u → (w.alloc (.cells cs.toArray T)).cell? ((⟨w.heap.size, 0, none⟩ : Addr).add j) = some u := fun j u h =>
  World.news_of_block (cs := cs.toArray) (t := T) (fr := (0, 0)) (last_block _ _ _ rfl) j u (by simpa using h)
theorem argCells_one (r : Nat) : ∀ u ∈ argCells r, u.oneCell' = true := fun u hu => by
  simp [argCells] at hu
  rcases hu with rfl | rfl | rfl <;> rfl
/-- the step: one argument more, in a block of its own -/
theorem GathersR.one {w1 w3 : World} {base : Nat} {v : Value} {vs : List V} {rs : List Nat} (u : V) (r : Nat) (h : GathersR w1 base v vs rs) (hr : Held w1 r u) (hv : v.ownBlock ≠ some r)
    (o : Obj) (g cap : Nat) (hown : w3.ownsRow base 61 4 (.slice (some ⟨g, 0, none⟩) (vs.length + 1) cap) (vs.length + 1) (rs.flatMap argCells ++ argCells r)) (hgrow : (w1.alloc o).grownBy w3 v.ownBlock) (hat : v.ownBlock = some g ∨ g = (w1.alloc o).heap.size) :
    GathersR w3 base (.slice (some ⟨g, 0, none⟩) (vs.length + 1) cap) (vs ++ [u]) (rs ++ [r]) := by
  have hb : Below w1.heap.size w1 (w1.alloc o) := (Below.refl _ _).alloc (Nat.le_refl _) o
  refine (h.below hb).more (us := [u]) (rs' := [r]) rfl (fun i r' u' h1 h2 => ?_) g cap (by simpa using hown) hgrow hat
  match i, h1, h2 with
  | 0, h1, h2 =>
    simp at h1 h2; subst h1 h2
    exact ⟨hr.below hb hr.1, hv⟩

set_option maxHeartbeats 1600000 in
set_option maxRecDepth 100000 in
theorem one_two (s : ByteArray) (b cap : Nat) (x y : Int) (v : V) (w : World) (h0 : w.cell? ⟨b, 0, none⟩ = some (.int .i64 x)) (h1 : w.cell? ⟨b, 1, none⟩ = some (.int .i64 y)) (hb : b < w.heap.size)
    (hcall : ∀ g cap w', Below w.heap.size w w' → ArgsAt w' g [.num x, .num y] → Calls Tryd.prog 48 #[.string s, .slice (some ⟨g, 0, none⟩) 2 cap] w' fun e w'' => e = .returned v.val ∧ Below w'.heap.size w' w'') :
    Calls Tryd.prog 41 #[.string s, .slice (some ⟨b, 0, none⟩) 2 cap] w fun e w' => e = .returned (.tuple #[.int .i64 v.given.1, .bool v.given.2]) ∧ Below w.heap.size w w' := by
  obtain ⟨i0, hi, hz0, hz1, hz2⟩ := info_parts info61
  have HC := Lib.hid hcall
  clear hcall
  go_enter Tryd.func41, Tryd.ntmps41
  go_wp2
  refine wp_loop_rounds 3 ?_
  rw [rounds_succ]
  go_wp2_with (first | (go_at_call 46; fail))
  go_at_call 46
  refine (one_any (.num x) _).mono ?_
  rintro e w1 ⟨r, rfl, hr, hh, hb1⟩
  have hA := Lib.hid ((GathersR.nil _ _ _ (owns_empty w)).below hb1)
  have hb01 : Below w.heap.size w w1 := ((Below.refl _ _).alloc (Nat.le_refl _) _).trans (hb1.mono (by simp))
  have hs1 := hb01.size
  have hr' : w.heap.size < r := by simp at hr; omega
  have HH := Lib.hid hh
  clear hh hb1 hr
  go_wp2_with (first | (at_builtin; refine wpList_append_lies _ rfl _ _ 57 rfl w.heap.size 61 i0 _ 4 48 Tryd.underlying57 hi hz0 hz1 hz2 rfl (by decide) _ 0 [] rfl (hA.out.2.1.alloc _) ⟨w1.heap.size, 0, none⟩ 1 1 (argCells r) rfl rfl (news_block _ _ _) (argCells_one r) (by decide) (by decide) (by decide) (by simp; omega) _ rfl ?_))
  intro g1 cap1 w2 hown2 hgrow2 hat2 hlt2
  have hG2 := Lib.hid (GathersR.one (V.num x) r hA.out HH.out (by intro e; simp [Value.ownBlock] at e; omega) _ g1 cap1 (by simpa using hown2) hgrow2 (by simpa using hat2))
  have hb02 : Below w.heap.size w w2 := (hb01.alloc hs1 _).grown hgrow2 (by simp; omega) (owns_row hA.out.2.1)
  have hs2 := hb02.size
  have h1' := (hb02.cell hb).trans h1
  have hg1 : w.heap.size ≤ g1 := owns_row hG2.out.2.1 g1 rfl
  clear hown2 hgrow2 hat2 hb01 hs1 HH hA
  simp only [List.length_nil, Nat.zero_add] at hG2
  go_wp2
  rw [rounds_succ]
  go_wp2_with (first | (go_at_call 46; fail))
  go_at_call 46
  refine (one_any (.num y) _).mono ?_
  rintro e w3 ⟨r', rfl, hr3, hh3, hb3⟩
  have hA3 := Lib.hid (hG2.out.below hb3)
  have hb03 : Below w.heap.size w w3 := hb02.trans (hb3.mono hs2)
  have hs3 := hb03.size
  have HH3 := Lib.hid hh3
  clear hh3 hb3 hb02 hG2
  go_wp2_with (first | (at_builtin; refine wpList_append_lies _ rfl _ _ 57 rfl w.heap.size 61 i0 _ 4 48 Tryd.underlying57 hi hz0 hz1 hz2 rfl (by decide) _ 1 _ rfl (hA3.out.2.1.alloc _) ⟨w3.heap.size, 0, none⟩ 1 1 (argCells r') rfl rfl (news_block _ _ _) (argCells_one r') (by decide) (by decide) (by decide) (by simp; omega) _ rfl ?_))
  intro g2 cap2 w4 hown4 hgrow4 hat4 hlt4
  have hG4 := GathersR.one (V.num y) r' hA3.out HH3.out (by intro e; simp [Value.ownBlock] at e; omega) _ g2 cap2 (by simpa using hown4) hgrow4 (by simpa using hat4)
  have hb04 : Below w.heap.size w w4 := (hb03.alloc hs3 _).grown hgrow4 (by simp; omega) (owns_row hA3.out.2.1)
  have hs4 := hb04.size
  obtain ⟨g5, cap5, e5, _, hAt⟩ := hG4.at (by simp)
  have e5' : g2 = g5 ∧ cap2 = cap5 := by simpa using e5
  obtain ⟨rfl, rfl⟩ := e5'
  have HK := Lib.hid (HC.out g2 cap2 w4 hb04 hAt)
  clear hown4 hgrow4 hat4 hb03 hs3 HH3 hA3 hG4 e5 hAt HC
  go_wp2
  rw [rounds_succ]
  go_wp2_with (first | (go_at_call 48; fail))
  go_at_call 48
  refine HK.out.mono ?_
  rintro e w5 ⟨rfl, hb5⟩
  have hb05 : Below w.heap.size w w5 := hb04.trans (hb5.mono hs4)
  go_wp2_with (first | (go_at_call 70; refine (given_any v _).mono ?_; rintro e w' ⟨rfl, rfl⟩))
  go_ret2
  exact ⟨rfl, hb05⟩
end Go.Proofs.YtkobkeopajohiaaDoor
