/-
  ARGUMENTS GATHERED, MORE: what Args gives at any row of plain data.
-/
import Derived.Test.YtkobkeopajohiaaGreatDoorVC
import Derived.Test.YtkobkeopajohiaaGreatDoorQQ
import Derived.LoopTactic
namespace Go.Proofs.YtkobkeopajohiaaGreatDoor
open Go.RowKit Go.Lib

theorem GathersR.args {w : World} {base g cap : Nat} {vs : List V} {rs : List Nat} (h : GathersR w base (.slice (some ⟨g, 0, none⟩) vs.length cap) vs rs) : ArgsAt w g vs := by
  refine ⟨own_lt h.2.1 g rfl, fun k u hk => ?_⟩
  have hn : 0 < vs.length := by have := (List.getElem?_eq_some_iff.1 hk).1; omega
  obtain ⟨g', cap', e, _, hA⟩ := h.at hn
  have e' : g = g' ∧ cap = cap' := by simpa using e
  obtain ⟨rfl, rfl⟩ := e'
  exact hA.2 k u hk

theorem own_cap {w : World} {base : Nat} {e : TypeId} {size g n cap m : Nat} {xs : List Value} (h : w.ownsRow base e size (.slice (some ⟨g, 0, none⟩) n cap) m xs) : n ≤ cap := by
  rcases h.2 with ⟨h', _⟩ | ⟨g', cap', cur, h', _, hg, hn, _⟩
  · simp at h'
  · simp only [Value.slice.injEq, Option.some.injEq, Addr.mk.injEq, and_true] at h'
    omega

set_option maxHeartbeats 1600000 in
set_option maxRecDepth 100000 in
theorem args_some (ad : Option Addr) (cap : Nat) (ps : List P) (vs : List V) (hl : vs.length = ps.length) (hn : ps.length ≤ 1000) (w : World) (hps : 0 < ps.length → ∃ b off, ad = some ⟨b, off, none⟩ ∧ PlainsAt w b off ps)
    (hof : ∀ (k : Nat) (p : P) (v : V), ps[k]? = some p → vs[k]? = some v → ∀ w', Below w.heap.size w w' → Calls Tryz.prog 60 #[(p.cut 60).val] w' fun e w'' => e = .returned v.val ∧ Below w'.heap.size w' w'') :
    Calls Tryz.prog 14 #[.slice ad ps.length cap] w fun e w' => ∃ g c rs, e = .returned (.slice (some ⟨g, 0, none⟩) vs.length c) ∧ GathersR w' w.heap.size (.slice (some ⟨g, 0, none⟩) vs.length c) vs rs ∧ vs.length ≤ c ∧ Below w.heap.size w w' := by
  obtain ⟨i0, hi, hz0, hz1, hz2⟩ := info_parts info61
  have HOF := Lib.hid hof
  have HPA := Lib.hid hps
  obtain ⟨n, hnn⟩ : ∃ n, n = ps.length := ⟨_, rfl⟩
  have HN := Lib.hid hnn
  have HL := Lib.hid hl
  rw [← hnn] at hn ⊢
  clear hof hps hnn hl
  go_enter Tryz.func14, Tryz.ntmps14
  go_wp2
  go_loopw [3, 9] (fun l i wr => ∃ (k g c : Nat) (rs : List Nat), i = .int .i64 k ∧ l = .slice (some ⟨g, 0, none⟩) k c ∧ k ≤ n ∧ k ≤ c ∧ Hid (GathersR wr w.heap.size (.slice (some ⟨g, 0, none⟩) k c) (vs.take k) rs) ∧ Below w.heap.size w wr)
    (fun _ i _ => n - (RowKit.intOf i).toNat)
  case atStart => exact ⟨0, w.heap.size, 0, [], rfl, rfl, Nat.zero_le _, Nat.zero_le _, Lib.hid (GathersR.nil _ _ _ (owns_empty w)), (Below.refl _ _).alloc (Nat.le_refl _) _⟩
  case round =>
    obtain ⟨k, g, c, rs, rfl, rfl, hk, hkc, hg, hbl⟩ := hrel
    have hsz := hbl.size
    by_cases hkn : k < n
    · obtain ⟨b, off, rfl, hps⟩ := HPA.out (by rw [← HN.out]; omega)
      have HPS := Lib.hid hps
      clear hps
      obtain ⟨p, hp⟩ : ∃ p, ps[k]? = some p := ⟨ps[k]'(by rw [← HN.out]; exact hkn), List.getElem?_eq_getElem _⟩
      obtain ⟨v, hv⟩ : ∃ v, vs[k]? = some v := ⟨vs[k]'(by rw [HL.out, ← HN.out]; exact hkn), List.getElem?_eq_getElem _⟩
      obtain ⟨hc0, hc1, hc2⟩ := (HPS.out.below hbl HPS.out.1).2 k p hp
      have HF := Lib.hid (HOF.out k p v hp hv)
      have HT := Lib.hid (show vs.take (k + 1) = vs.take k ++ [v] by
        obtain ⟨e1, e2⟩ := List.getElem?_eq_some_iff.1 hv
        rw [List.take_add_one, hv]; rfl)
      have HLk := Lib.hid (show (vs.take k).length = k by rw [List.length_take, HL.out, ← HN.out]; omega)
      have HCut := Lib.hid fun w => lawCut_any p.s ⟨(p.s.data.toList.take 60).toArray⟩ 60 w rfl
      clear hp hv
      unfold P.val P.cut at HF
      simp only at HF
      generalize (⟨(p.s.data.toList.take 60).toArray⟩ : ByteArray) = t at *
      generalize p.kind = pk at *
      generalize p.n = pn at *
      generalize p.s = ps' at *
      go_wp2_with (first
        | (go_at_call 7; refine (HCut.out _).mono ?_; rintro e w' ⟨rfl, rfl⟩)
        | (go_at_call 60; fail))
      go_at_call 60
      refine (HF.out _ (by go_grown)).mono ?_
      rintro e w1 ⟨rfl, hb1⟩
      have hr1 : Below wr.heap.size wr w1 := ((Below.refl _ _).alloc (Nat.le_refl _) _).trans (hb1.mono (by simp))
      clear hb1 hc0 hc1 hc2 HF HCut
      go_wp2_with (first | (go_at_call 59; fail))
      go_at_call 59
      refine (one_any v _).mono ?_
      rintro e w2 ⟨r, rfl, hr, hh, hb2⟩
      have hr2 : Below wr.heap.size wr w2 := hr1.trans (hb2.mono hr1.size)
      have hb02 : Below w.heap.size w w2 := hbl.trans (hr2.mono hsz)
      have hA := Lib.hid (hg.out.below hr2)
      have hAo := Lib.hid (show w2.ownsRow w.heap.size 98 4 (.slice (some ⟨g, 0, none⟩) k c) k (rs.flatMap argCells) by have := hA.out.2.1; rw [HLk.out] at this; exact this)
      have HR := Lib.hid (show (Value.slice (some ⟨g, 0, none⟩) k c).ownBlock ≠ some r from fun e => by
        have := own_lt hg.out.2.1 r e
        have := hr1.size
        omega)
      have hs2 := hb02.size
      have HH := Lib.hid hh
      have HB := Lib.hid hb02
      clear hr1 hb2 hr2 hh hr hbl hg hb02
      go_wp2_with (first | (at_builtin; refine wpList_append_lies _ rfl _ _ 33 rfl w.heap.size 98 i0 _ 4 48 Tryz.underlying33 hi hz0 hz1 hz2 rfl (by decide) _ k _ rfl (hAo.out.alloc _) ⟨w2.heap.size, 0, none⟩ 1 1 (argCells r) rfl rfl (news_block _ _ _) (argCells_one r) (by decide) (by unfold maxLen; omega) (by omega) (by simp; omega) _ rfl ?_))
      intro g1 cap1 w3 hown3 hgrow3 hat3 hlt3
      have hG3 := Lib.hid (GathersR.one v r hA.out HH.out HR.out _ g1 cap1 (by rw [HLk.out]; simpa using hown3) hgrow3 (by simpa using hat3))
      have hb03 := Lib.hid ((HB.out.alloc hs2 _).grown hgrow3 (by simp; omega) (owns_row hA.out.2.1))
      have HCC := Lib.hid (own_cap hown3)
      clear hown3 hgrow3 hat3 hlt3 HH HR HB hA hAo
      go_wp2
      go_roundw
      case rel => exact ⟨k + 1, g1, cap1, rs ++ [r], rfl, rfl, by omega, HCC.out, Lib.hid (by have := hG3.out; rw [HLk.out] at this; rw [HT.out]; exact this), hb03.out⟩
      case measure => simp [RowKit.intOf]; omega
    · have hkk : k = n := by omega
      have hv : Hid (vs.take k = vs) := Lib.hid (List.take_of_length_le (by rw [HL.out, ← HN.out]; omega))
      have HLn : Hid (k = vs.length) := Lib.hid (by rw [hkk, HN.out, HL.out])
      rw [hv.out] at hg
      go_wp2
      go_ret
      exact ⟨g, c, rs, by rw [← HLn.out, hkk]; rfl, by rw [← HLn.out]; exact hg.out, by rw [← HLn.out]; exact hkc, hbl⟩

theorem plains_take {w : World} {b off : Nat} {ps : List P} (k : Nat) (h : PlainsAt w b off ps) : PlainsAt w b off (ps.take k) :=
  ⟨h.1, fun i p hi => h.2 i p (by rw [List.getElem?_take] at hi; split at hi <;> simp_all)⟩
theorem take_at {α : Type} (l : List α) (k i : Nat) (x : α) (h : (l.take k)[i]? = some x) : l[i]? = some x := by
  rw [List.getElem?_take] at h
  split at h
  · exact h
  · cases h
def vsOf (ps : List P) : List V := ps.map fun p => (p.cut 60).of
theorem size_cut60 (p : P) : (p.cut 60).s.size ≤ 60 := by
  rw [size_eq]
  show (p.s.data.toList.take 60).length ≤ 60
  rw [List.length_take]; omega
theorem vsOf_short (ps : List P) : ∀ v ∈ vsOf ps, v.short 4294967 := fun v hv => by
  obtain ⟨p, _, rfl⟩ := List.mem_map.1 hv
  exact of_short _ _ (Nat.le_trans (size_cut60 p) (by decide))
theorem args_plains (ad : Option Addr) (cap : Nat) (ps : List P) (hn : ps.length ≤ 1000) (w : World) (hT : Lib.Utf8Tabs 4 5 w) (h7 : 5 < w.heap.size) (hps : 0 < ps.length → ∃ b off, ad = some ⟨b, off, none⟩ ∧ PlainsAt w b off ps) :
    Calls Tryz.prog 14 #[.slice ad ps.length cap] w fun e w' => ∃ g c rs, e = .returned (.slice (some ⟨g, 0, none⟩) (vsOf ps).length c) ∧ GathersR w' w.heap.size (.slice (some ⟨g, 0, none⟩) (vsOf ps).length c) (vsOf ps) rs ∧ (vsOf ps).length ≤ c ∧ Below w.heap.size w w' := by
  refine args_some ad cap ps (vsOf ps) (by simp [vsOf]) hn w hps fun k p v h1 h2 w' hb => ?_
  have e : v = (p.cut 60).of := by
    simp only [vsOf, List.getElem?_map, h1, Option.map_some, Option.some.injEq] at h2
    exact h2.symm
  subst e
  exact of_any _ w' (tabs_below hT hb h7) (Nat.lt_of_lt_of_le h7 hb.size) (by have := size_cut60 p; omega)
end Go.Proofs.YtkobkeopajohiaaGreatDoor
