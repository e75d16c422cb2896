/-
  ARGUMENTS GATHERED, MORE: what Args gives, as a slice that is there; one append of any number of arguments; a slice's head and its rest.
-/
import Derived.Test.YtkobkeopajohiaaDoorE1
import Derived.Test.YtkobkeopajohiaaDoorF4
import Derived.Test.YtkobkeopajohiaaDoorF3
import Derived.LoopTactic
namespace Go.Proofs.YtkobkeopajohiaaDoor
open Go.RowKit Go.Lib

theorem GathersR.args {w : World} {base g cap : Nat} {vs : List V} {rs : List Nat} (h : GathersR w base (.slice (some ⟨g, 0, none⟩) vs.length cap) vs rs) : ArgsAt w g vs := by
  refine ⟨own_lt h.2.1 g rfl, fun k u hk => ?_⟩
  have hn : 0 < vs.length := by have := (List.getElem?_eq_some_iff.1 hk).1; omega
  obtain ⟨g', cap', e, _, hA⟩ := h.at hn
  have e' : g = g' ∧ cap = cap' := by simpa using e
  obtain ⟨rfl, rfl⟩ := e'
  exact hA.2 k u hk

theorem slice_to (g n lc k : Nat) (hk : k ≤ n) (hn : n ≤ lc) (w : World) :
    (Instr.slice 57 (.slice (some ⟨g, 0, none⟩) n lc) none (some (.int .i64 (k : Int))) none).run Tryd.prog w = .ok (.slice (some ⟨g, 0, none⟩) k lc) w := by
  have h0 : (0 : Int) ≤ k := by omega
  have h1 : k ≤ lc := by omega
  simp [Instr.slice, run_underlying Tryd.underlying57, Instr.sliceBounds, Instr.sliceBound, asIntOf, h0, h1, Addr.add, Result.andThen]
theorem slice_from (g n lc k : Nat) (hk : k ≤ n) (w : World) :
    (Instr.slice 57 (.slice (some ⟨g, 0, none⟩) n lc) (some (.int .i64 (k : Int))) none none).run Tryd.prog w = .ok (.slice (some (if lc = k then ⟨g, 0, none⟩ else ⟨g, k * 4, none⟩)) (n - k) (lc - k)) w := by
  have h0 : (0 : Int) ≤ k := by omega
  have sz : (sizeOf 61).run Tryd.prog w = .ok 4 w := Tryd.sizeOf61 w
  simp [Instr.slice, run_underlying Tryd.underlying57, Instr.sliceBounds, Instr.sliceBound, asIntOf, h0, hk, sz, Addr.add, Result.andThen]
  by_cases h : lc = k
  · simp [h]
  · simp [h]
    intro h2; omega
theorem load_none (a : Addr) (w : World) : (loadCells a 0).run Tryd.prog w = .ok #[] w := run_loadCells_list (P := Tryd.prog) w a [] (fun j u h => by simp at h)
theorem run_append_zero (base : Nat) (ty : TypeId) (i : TypeInfo) (hi : Tryd.prog.info? 61 = some i)
    (v : Value) (n : Nat) (xs : List Value) (w : World) (hown : w.ownsRow base 61 4 v n xs) (a : Option Addr) (c : Nat) :
    (Builtin.append_ #[57, 57] ty #[v, .slice a 0 c]).run Tryd.prog w = .ok v w := by
  rcases hown.2 with ⟨rfl, rfl⟩ | ⟨g, cap, cur, rfl, _, _, hnc, _⟩
  · cases a <;> simp [Builtin.append_, run_underlying Tryd.underlying57, sizeOf, typeInfo, hi, Builtin.lenOf, Builtin.firstCells, load_none, Result.andThen]
  · cases a <;> simp [Builtin.append_, run_underlying Tryd.underlying57, sizeOf, typeInfo, hi, Builtin.lenOf, Builtin.firstCells, hnc, storeCells, load_none, Result.andThen]
theorem own_cap {w : World} {base : Nat} {e : TypeId} {size g n cap m : Nat} {xs : List Value} (h : w.ownsRow base e size (.slice (some ⟨g, 0, none⟩) n cap) m xs) : n ≤ cap := by
  rcases h.2 with ⟨h', _⟩ | ⟨g', cap', cur, h', _, hg, hn, _⟩
  · simp at h'
  · simp only [Value.slice.injEq, Option.some.injEq, Addr.mk.injEq, and_true] at h'
    omega

set_option maxHeartbeats 1600000 in
set_option maxRecDepth 100000 in
theorem args_some (ad : Option Addr) (cap : Nat) (ps : List P) (vs : List V) (hl : vs.length = ps.length) (hn : ps.length ≤ 1000) (w : World) (hps : 0 < ps.length → ∃ b off, ad = some ⟨b, off, none⟩ ∧ PlainsAt w b off ps)
    (hof : ∀ (k : Nat) (p : P) (v : V), ps[k]? = some p → vs[k]? = some v → ∀ w', Below w.heap.size w w' → Calls Tryd.prog 71 #[(p.cut 60).val] w' fun e w'' => e = .returned v.val ∧ Below w'.heap.size w' w'') :
    Calls Tryd.prog 43 #[.slice ad ps.length cap] w fun e w' => ∃ g c rs, e = .returned (.slice (some ⟨g, 0, none⟩) vs.length c) ∧ GathersR w' w.heap.size (.slice (some ⟨g, 0, none⟩) vs.length c) vs rs ∧ vs.length ≤ c ∧ Below w.heap.size w w' := by
  obtain ⟨i0, hi, hz0, hz1, hz2⟩ := info_parts info61
  have HOF := Lib.hid hof
  have HPA := Lib.hid hps
  obtain ⟨n, hnn⟩ : ∃ n, n = ps.length := ⟨_, rfl⟩
  have HN := Lib.hid hnn
  have HL := Lib.hid hl
  rw [← hnn] at hn ⊢
  clear hof hps hnn hl
  go_enter Tryd.func43, Tryd.ntmps43
  go_wp2
  go_loopw [3, 9] (fun l i wr => ∃ (k g c : Nat) (rs : List Nat), i = .int .i64 k ∧ l = .slice (some ⟨g, 0, none⟩) k c ∧ k ≤ n ∧ k ≤ c ∧ Hid (GathersR wr w.heap.size (.slice (some ⟨g, 0, none⟩) k c) (vs.take k) rs) ∧ Below w.heap.size w wr)
    (fun _ i _ => n - (RowKit.intOf i).toNat)
  case atStart => exact ⟨0, w.heap.size, 0, [], rfl, rfl, Nat.zero_le _, Nat.zero_le _, Lib.hid (GathersR.nil _ _ _ (owns_empty w)), (Below.refl _ _).alloc (Nat.le_refl _) _⟩
  case round =>
    obtain ⟨k, g, c, rs, rfl, rfl, hk, hkc, hg, hbl⟩ := hrel
    have hsz := hbl.size
    by_cases hkn : k < n
    · obtain ⟨b, off, rfl, hps⟩ := HPA.out (by rw [← HN.out]; omega)
      have HPS := Lib.hid hps
      clear hps
      obtain ⟨p, hp⟩ : ∃ p, ps[k]? = some p := ⟨ps[k]'(by rw [← HN.out]; exact hkn), List.getElem?_eq_getElem _⟩
      obtain ⟨v, hv⟩ : ∃ v, vs[k]? = some v := ⟨vs[k]'(by rw [HL.out, ← HN.out]; exact hkn), List.getElem?_eq_getElem _⟩
      obtain ⟨hc0, hc1, hc2⟩ := (HPS.out.below hbl HPS.out.1).2 k p hp
      have HF := Lib.hid (HOF.out k p v hp hv)
      have HT := Lib.hid (show vs.take (k + 1) = vs.take k ++ [v] by
        obtain ⟨e1, e2⟩ := List.getElem?_eq_some_iff.1 hv
        rw [List.take_add_one, hv]; rfl)
      have HLk := Lib.hid (show (vs.take k).length = k by rw [List.length_take, HL.out, ← HN.out]; omega)
      have HCut := Lib.hid fun w => lawCut_any p.s ⟨(p.s.data.toList.take 60).toArray⟩ 60 w rfl
      clear hp hv
      unfold P.val P.cut at HF
      simp only at HF
      generalize (⟨(p.s.data.toList.take 60).toArray⟩ : ByteArray) = t at *
      generalize p.kind = pk at *
      generalize p.n = pn at *
      generalize p.s = ps' at *
      go_wp2_with (first
        | (go_at_call 24; refine (HCut.out _).mono ?_; rintro e w' ⟨rfl, rfl⟩)
        | (go_at_call 71; fail))
      go_at_call 71
      refine (HF.out _ (by go_grown)).mono ?_
      rintro e w1 ⟨rfl, hb1⟩
      have hr1 : Below wr.heap.size wr w1 := ((Below.refl _ _).alloc (Nat.le_refl _) _).trans (hb1.mono (by simp))
      clear hb1 hc0 hc1 hc2 HF HCut
      go_wp2_with (first | (go_at_call 46; fail))
      go_at_call 46
      refine (one_any v _).mono ?_
      rintro e w2 ⟨r, rfl, hr, hh, hb2⟩
      have hr2 : Below wr.heap.size wr w2 := hr1.trans (hb2.mono hr1.size)
      have hb02 : Below w.heap.size w w2 := hbl.trans (hr2.mono hsz)
      have hA := Lib.hid (hg.out.below hr2)
      have hAo := Lib.hid (show w2.ownsRow w.heap.size 61 4 (.slice (some ⟨g, 0, none⟩) k c) k (rs.flatMap argCells) by have := hA.out.2.1; rw [HLk.out] at this; exact this)
      have HR := Lib.hid (show (Value.slice (some ⟨g, 0, none⟩) k c).ownBlock ≠ some r from fun e => by
        have := own_lt hg.out.2.1 r e
        have := hr1.size
        omega)
      have hs2 := hb02.size
      have HH := Lib.hid hh
      have HB := Lib.hid hb02
      clear hr1 hb2 hr2 hh hr hbl hg hb02
      go_wp2_with (first | (at_builtin; refine wpList_append_lies _ rfl _ _ 57 rfl w.heap.size 61 i0 _ 4 48 Tryd.underlying57 hi hz0 hz1 hz2 rfl (by decide) _ k _ rfl (hAo.out.alloc _) ⟨w2.heap.size, 0, none⟩ 1 1 (argCells r) rfl rfl (news_block _ _ _) (argCells_one r) (by decide) (by unfold maxLen; omega) (by omega) (by simp; omega) _ rfl ?_))
      intro g1 cap1 w3 hown3 hgrow3 hat3 hlt3
      have hG3 := Lib.hid (GathersR.one v r hA.out HH.out HR.out _ g1 cap1 (by rw [HLk.out]; simpa using hown3) hgrow3 (by simpa using hat3))
      have hb03 := Lib.hid ((HB.out.alloc hs2 _).grown hgrow3 (by simp; omega) (owns_row hA.out.2.1))
      have HCC := Lib.hid (own_cap hown3)
      clear hown3 hgrow3 hat3 hlt3 HH HR HB hA hAo
      go_wp2
      go_roundw
      case rel => exact ⟨k + 1, g1, cap1, rs ++ [r], rfl, rfl, by omega, HCC.out, Lib.hid (by have := hG3.out; rw [HLk.out] at this; rw [HT.out]; exact this), hb03.out⟩
      case measure => simp [RowKit.intOf]; omega
    · have hkk : k = n := by omega
      have hv : Hid (vs.take k = vs) := Lib.hid (List.take_of_length_le (by rw [HL.out, ← HN.out]; omega))
      have HLn : Hid (k = vs.length) := Lib.hid (by rw [hkk, HN.out, HL.out])
      rw [hv.out] at hg
      go_wp2
      go_ret
      exact ⟨g, c, rs, by rw [← HLn.out, hkk]; rfl, by rw [← HLn.out]; exact hg.out, by rw [← HLn.out]; exact hkc, hbl⟩

/-- ONE APPEND OF ANY NUMBER OF ARGUMENTS. -/
theorem append_args {w : World} {ops : Array Oper} {rest : List Oper} {o : Oper} {a : Act} {Q : Exit → Act → World → Prop} (hgd : o.guard = none) (s x : Operand)
    (ho : o.op = .call { callee := .builtin .append, args := #[s, x], argTypes := #[57, 57] }) (base : Nat) (v : Value) (vs us : List V) (rs rs' : List Nat) (hs : a.eval s = v) (hG : GathersR w base v vs rs)
    (ad : Addr) (m c : Nat) (hx : a.eval x = .slice (some ad) m c) (hl : rs'.length = m) (hl' : us.length = m) (hcells : 0 < m → ∀ j u, (rs'.flatMap argCells)[j]? = some u → w.cell? (ad.add j) = some u)
    (hnew : ∀ (i r : Nat) (u : V), rs'[i]? = some r → us[i]? = some u → Held w r u ∧ v.ownBlock ≠ some r) (hsmall : vs.length + m ≤ 1000) (hbase : base ≤ w.heap.size)
    (h : ∀ v' w', GathersR w' base v' (vs ++ us) (rs ++ rs') → w.grownBy w' v.ownBlock → (v'.ownBlock = v.ownBlock ∨ v'.ownBlock = some w.heap.size) → wpList Tryd.prog ops Q rest (a.put o.dst v') w') :
    wpList Tryd.prog ops Q (o :: rest) a w := by
  obtain ⟨i0, hi, hz0, hz1, hz2⟩ := info_parts info61
  by_cases h0 : 0 < m
  · refine wpList_append_lies w hgd s x 57 ho base 61 i0 _ 4 48 Tryd.underlying57 hi hz0 hz1 hz2 rfl (by decide) v vs.length _ hs hG.2.1 ad m c (rs'.flatMap argCells) hx (by rw [flat_len, hl]) (hcells h0) (fun u hu => ?_) h0 (by unfold maxLen; omega) (by omega) hbase _ rfl ?_
    · obtain ⟨r, _, hr⟩ := List.mem_flatMap.1 hu
      exact argCells_one r u hr
    · intro g cap w' hown hgrow hat _
      subst hl'
      refine h _ _ (hG.more hl hnew g cap hown hgrow hat) hgrow ?_
      rcases hat with e | e
      · exact .inl e.symm
      · exact .inr (by rw [e]; rfl)
  · obtain rfl : m = 0 := by omega
    obtain rfl : us = [] := List.eq_nil_of_length_eq_zero hl'
    obtain rfl : rs' = [] := List.eq_nil_of_length_eq_zero hl
    refine wpList_plain hgd fun K hK => ?_
    have hrun := run_append_zero base o.type i0 hi v vs.length _ w hG.2.1 (some ad) c
    unfold Oper.wp
    simp [execOp, ho, resolve, invoke, builtin, hs, hx, hrun, Result.andThen]
    exact hK _ _ (h v w (by simpa using hG) ⟨rfl, rfl, rfl, Nat.le_refl _, fun _ _ _ => rfl⟩ (.inl rfl))
theorem call_with (s : ByteArray) (xs ys : List V) (n : Int) (hn : n ≠ 0) (g cap : Nat) (vs : List V) (hvs : vs = xs ++ V.fail n :: ys) (w : World) (hG : GM w) (hA : ArgsAt w g vs) (hs : ∀ v ∈ vs, v.short 4294967) (hx : ∀ v ∈ xs, v.asNum.2 = 0) :
    Calls Tryd.prog 48 #[.string s, .slice (some ⟨g, 0, none⟩) vs.length cap] w fun e w' => ∃ f, e = .returned (V.fail f).val ∧ ((lim s = (0, 0) ∧ f = 6) ∨ (0 < (lim s).2 ∧ (f = n ∨ f = 3))) ∧ Below w.heap.size w w' := by
  rcases lim_cases s with h | ⟨a, b, h, h1, h2, h3⟩
  · exact (call_unknown s _ _ _ w h).mono fun e w' ⟨he, hb⟩ => ⟨6, he, .inl ⟨h, rfl⟩, hb⟩
  · have hb : 0 < (lim s).2 := by rw [h]; show 0 < b; omega
    by_cases hc : a ≤ (vs.length : Int) ∧ (vs.length : Int) ≤ b
    · exact (call_fail s vs g cap a b n w hG hA hs h (by omega) h3 hc (by rw [hvs]; exact nums_fail n hn ys xs [] hx) hn).mono fun e w' ⟨he, hb'⟩ => ⟨n, he, .inr ⟨hb, .inl rfl⟩, hb'⟩
    · exact (call_count s _ _ _ a b w h (by omega) (by omega)).mono fun e w' ⟨he, hb'⟩ => ⟨3, he, .inr ⟨hb, .inr rfl⟩, hb'⟩
theorem call_nil (s : ByteArray) (w : World) (h : 0 < (lim s).2) :
    Calls Tryd.prog 48 #[.string s, .slice none 0 0] w fun e w' => e = .returned (V.fail 3).val ∧ Below w.heap.size w w' := by
  rcases lim_cases s with h0 | ⟨a, b, h0, h1, h2, h3⟩
  · rw [h0] at h; exact absurd h (by decide)
  · exact call_count s none 0 0 a b w h0 (by omega) (.inl (by show (0 : Int) < a; omega))
end Go.Proofs.YtkobkeopajohiaaDoor
