/-
  PLAIN DATA AS ARGUMENTS.
-/
import Derived.Test.YtkobkeopajohiaaGreatDoorV10
import Derived.LoopTactic
namespace Go.Proofs.YtkobkeopajohiaaGreatDoor
open Go.RowKit Go.Lib

/-- plain data -/
structure P where
  kind : Int
  n : Int
  s : ByteArray
def P.val (p : P) : Value := .agg #[.int .i64 p.kind, .int .i64 p.n, .string p.s]
/-- with its text cut -/
def P.cut (p : P) (n : Nat) : P := ⟨p.kind, p.n, ⟨(p.s.data.toList.take n).toArray⟩⟩
def PlainsAt (w : World) (b off : Nat) (ps : List P) : Prop := b < w.heap.size ∧ ∀ k p, ps[k]? = some p →
  w.cell? ⟨b, off + k * 3, none⟩ = some (.int .i64 p.kind) ∧ w.cell? ⟨b, off + k * 3 + 1, none⟩ = some (.int .i64 p.n) ∧ w.cell? ⟨b, off + k * 3 + 2, none⟩ = some (.string p.s)
theorem PlainsAt.below {w w' : World} {b off : Nat} {ps : List P} {B : Nat} (h : PlainsAt w b off ps) (hb : Below B w w') (hB : b < B) : PlainsAt w' b off ps :=
  ⟨Nat.lt_of_lt_of_le h.1 hb.size, fun k p e => ⟨(hb.cell hB).trans (h.2 k p e).1, (hb.cell hB).trans (h.2 k p e).2.1, (hb.cell hB).trans (h.2 k p e).2.2⟩⟩
theorem size_cut (s : ByteArray) (n : Nat) : (⟨(s.data.toList.take n).toArray⟩ : ByteArray).data.toList = s.data.toList.take n := rfl

theorem own_lt {w : World} {base : Nat} {e : TypeId} {size : Nat} {v : Value} {n : Nat} {xs : List Value} (h : w.ownsRow base e size v n xs) (k : Nat) (hk : v.ownBlock = some k) : k < w.heap.size := by
  rcases h.2 with ⟨rfl, _⟩ | ⟨g, cap, cur, rfl, h1, hg, _⟩
  · cases hk
  · have : g = k := by simpa [Value.ownBlock] using hk
    subst this
    rcases Nat.lt_or_ge g w.heap.size with h2 | h2
    · exact h2
    · rw [Array.getElem?_eq_none h2] at hg; cases hg

set_option maxHeartbeats 1600000 in
set_option maxRecDepth 100000 in
theorem args_any (b off cap : Nat) (ps : List P) (vs : List V) (hl : vs.length = ps.length) (hn : ps.length ≤ 1000) (w : World) (hps : PlainsAt w b off ps)
    (hof : ∀ (k : Nat) (p : P) (v : V), ps[k]? = some p → vs[k]? = some v → ∀ w', Below w.heap.size w w' → Calls Tryz.prog 60 #[(p.cut 60).val] w' fun e w'' => e = .returned v.val ∧ Below w'.heap.size w' w'') :
    Calls Tryz.prog 14 #[.slice (some ⟨b, off, none⟩) ps.length cap] w fun e w' => ∃ l rs, e = .returned l ∧ GathersR w' w.heap.size l vs rs ∧ Below w.heap.size w w' := by
  obtain ⟨i0, hi, hz0, hz1, hz2⟩ := info_parts info61
  have HOF := Lib.hid hof
  have HPS := Lib.hid hps
  obtain ⟨n, hnn⟩ : ∃ n, n = ps.length := ⟨_, rfl⟩
  have HN := Lib.hid hnn
  have HL := Lib.hid hl
  rw [← hnn] at hn ⊢
  clear hof hps hnn hl
  go_enter Tryz.func14, Tryz.ntmps14
  go_wp2
  go_loopw [3, 9] (fun l i wr => ∃ (k : Nat) (rs : List Nat), i = .int .i64 k ∧ k ≤ n ∧ Hid (GathersR wr w.heap.size l (vs.take k) rs) ∧ Below w.heap.size w wr)
    (fun _ i _ => n - (RowKit.intOf i).toNat)
  case atStart => exact ⟨0, [], rfl, Nat.zero_le _, Lib.hid (GathersR.nil _ _ _ (owns_empty w)), (Below.refl _ _).alloc (Nat.le_refl _) _⟩
  case round =>
    obtain ⟨k, rs, rfl, hk, hg, hbl⟩ := hrel
    have hsz := hbl.size
    by_cases hkn : k < n
    · obtain ⟨p, hp⟩ : ∃ p, ps[k]? = some p := ⟨ps[k]'(by rw [← HN.out]; exact hkn), List.getElem?_eq_getElem _⟩
      obtain ⟨v, hv⟩ : ∃ v, vs[k]? = some v := ⟨vs[k]'(by rw [HL.out, ← HN.out]; exact hkn), List.getElem?_eq_getElem _⟩
      obtain ⟨hc0, hc1, hc2⟩ := (HPS.out.below hbl HPS.out.1).2 k p hp
      have HF := Lib.hid (HOF.out k p v hp hv)
      have HT := Lib.hid (show vs.take (k + 1) = vs.take k ++ [v] by
        obtain ⟨e1, e2⟩ := List.getElem?_eq_some_iff.1 hv
        rw [List.take_add_one, hv]; rfl)
      have HLk := Lib.hid (show (vs.take k).length = k by rw [List.length_take, HL.out, ← HN.out]; omega)
      have HCut := Lib.hid fun w => lawCut_any p.s ⟨(p.s.data.toList.take 60).toArray⟩ 60 w rfl
      clear hp hv
      unfold P.val P.cut at HF
      simp only at HF
      generalize (⟨(p.s.data.toList.take 60).toArray⟩ : ByteArray) = t at *
      generalize p.kind = pk at *
      generalize p.n = pn at *
      generalize p.s = ps' at *
      go_wp2_with (first
        | (go_at_call 7; refine (HCut.out _).mono ?_; rintro e w' ⟨rfl, rfl⟩)
        | (go_at_call 60; fail))
      go_at_call 60
      refine (HF.out _ (by go_grown)).mono ?_
      rintro e w1 ⟨rfl, hb1⟩
      have hr1 : Below wr.heap.size wr w1 := ((Below.refl _ _).alloc (Nat.le_refl _) _).trans (hb1.mono (by simp))
      clear hb1 hc0 hc1 hc2 HF HCut
      go_wp2_with (first | (go_at_call 59; fail))
      go_at_call 59
      refine (one_any v _).mono ?_
      rintro e w2 ⟨r, rfl, hr, hh, hb2⟩
      have hr2 : Below wr.heap.size wr w2 := hr1.trans (hb2.mono hr1.size)
      have hb02 : Below w.heap.size w w2 := hbl.trans (hr2.mono hsz)
      have hA := Lib.hid (hg.out.below hr2)
      have HR := Lib.hid (show u3.ownBlock ≠ some r from fun e => by
        have := own_lt hg.out.2.1 r e
        have := hr1.size
        omega)
      have hs2 := hb02.size
      have HH := Lib.hid hh
      have HB := Lib.hid hb02
      clear hr1 hb2 hr2 hh hr hbl hg hb02
      go_wp2_with (first | (at_builtin; refine wpList_append_lies _ rfl _ _ 33 rfl w.heap.size 98 i0 _ 4 48 Tryz.underlying33 hi hz0 hz1 hz2 rfl (by decide) _ _ _ rfl (hA.out.2.1.alloc _) ⟨w2.heap.size, 0, none⟩ 1 1 (argCells r) rfl rfl (news_block _ _ _) (argCells_one r) (by decide) (by rw [HLk.out]; unfold maxLen; omega) (by rw [HLk.out]; omega) (by simp; omega) _ rfl ?_))
      intro g1 cap1 w3 hown3 hgrow3 hat3 hlt3
      have hG3 := Lib.hid (GathersR.one v r hA.out HH.out HR.out _ g1 cap1 (by simpa using hown3) hgrow3 (by simpa using hat3))
      have hb03 := Lib.hid ((HB.out.alloc hs2 _).grown hgrow3 (by simp; omega) (owns_row hA.out.2.1))
      clear hown3 hgrow3 hat3 hlt3 HH HR HB hA
      go_wp2
      go_roundw
      case rel => exact ⟨k + 1, rs ++ [r], rfl, by omega, Lib.hid (by have := hG3.out; rw [List.length_take] at this; rw [HT.out]; exact this), hb03.out⟩
      case measure => simp [RowKit.intOf]; omega
    · have hkk : k = n := by omega
      have hv : Hid (vs.take k = vs) := Lib.hid (List.take_of_length_le (by rw [HL.out, ← HN.out]; omega))
      rw [hv.out] at hg
      go_wp2
      go_ret
      exact ⟨_, rs, rfl, hg.out, hbl⟩
end Go.Proofs.YtkobkeopajohiaaGreatDoor
