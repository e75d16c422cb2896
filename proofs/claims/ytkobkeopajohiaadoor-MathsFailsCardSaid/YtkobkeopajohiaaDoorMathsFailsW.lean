/-
  THE WALK of the law MathsFails: a failure among the arguments is the answer.
-/
import Derived.Test.YtkobkeopajohiaaDoorF5
import Derived.Test.YtkobkeopajohiaaDoorF2
import Derived.Test.YtkobkeopajohiaaDoorE2
import Derived.Test.YtkobkeopajohiaaDoorV13
namespace Go.Proofs.YtkobkeopajohiaaDoor
open Go.RowKit Go.Lib

theorem plains_take {w : World} {b off : Nat} {ps : List P} (k : Nat) (h : PlainsAt w b off ps) : PlainsAt w b off (ps.take k) :=
  ⟨h.1, fun i p hi => h.2 i p (by rw [List.getElem?_take] at hi; split at hi <;> simp_all)⟩
theorem flat_take (rs : List Nat) (k j : Nat) (u : Value) (h : ((rs.take k).flatMap argCells)[j]? = some u) : (rs.flatMap argCells)[j]? = some u := by
  rw [← List.take_append_drop k rs, List.flatMap_append, List.getElem?_append_left (List.getElem?_eq_some_iff.1 h).1]
  exact h
theorem flat_drop (rs : List Nat) (k j : Nat) (hk : k ≤ rs.length) (u : Value) (h : ((rs.drop k).flatMap argCells)[j]? = some u) : (rs.flatMap argCells)[k * 4 + j]? = some u := by
  have e : ((rs.take k).flatMap argCells).length = k * 4 := by rw [flat_len, List.length_take]; omega
  rw [← List.take_append_drop k rs, List.flatMap_append, List.getElem?_append_right (by omega), e]
  rw [show k * 4 + j - k * 4 = j by omega]
  exact h
theorem take_at {α : Type} (l : List α) (k i : Nat) (x : α) (h : (l.take k)[i]? = some x) : l[i]? = some x := by
  rw [List.getElem?_take] at h
  split at h
  · exact h
  · cases h
def vsOf (ps : List P) : List V := ps.map fun p => (p.cut 60).of
theorem size_cut60 (p : P) : (p.cut 60).s.size ≤ 60 := by
  rw [size_eq]
  show (p.s.data.toList.take 60).length ≤ 60
  rw [List.length_take]; omega
theorem vsOf_short (ps : List P) : ∀ v ∈ vsOf ps, v.short 4294967 := fun v hv => by
  obtain ⟨p, _, rfl⟩ := List.mem_map.1 hv
  exact of_short _ _ (Nat.le_trans (size_cut60 p) (by decide))
theorem args_plains (ad : Option Addr) (cap : Nat) (ps : List P) (hn : ps.length ≤ 1000) (w : World) (hT : Lib.Utf8Tabs 5 6 w) (h7 : 6 < w.heap.size) (hps : 0 < ps.length → ∃ b off, ad = some ⟨b, off, none⟩ ∧ PlainsAt w b off ps) :
    Calls Tryd.prog 43 #[.slice ad ps.length cap] w fun e w' => ∃ g c rs, e = .returned (.slice (some ⟨g, 0, none⟩) (vsOf ps).length c) ∧ GathersR w' w.heap.size (.slice (some ⟨g, 0, none⟩) (vsOf ps).length c) (vsOf ps) rs ∧ (vsOf ps).length ≤ c ∧ Below w.heap.size w w' := by
  refine args_some ad cap ps (vsOf ps) (by simp [vsOf]) hn w hps fun k p v h1 h2 w' hb => ?_
  have e : v = (p.cut 60).of := by
    simp only [vsOf, List.getElem?_map, h1, Option.map_some, Option.some.injEq] at h2
    exact h2.symm
  subst e
  exact of_any _ w' (tabs_below hT hb h7) (Nat.lt_of_lt_of_le h7 hb.size) (by have := size_cut60 p; omega)
theorem asNum_small (v : V) (n f : Int) (h : v.asNum = (n, f)) : v.asNum.2 = f := by rw [h]

theorem with_short (vs : List V) (k : Nat) (n : Int) (h : ∀ v ∈ vs, v.short 4294967) : ∀ v ∈ vs.take k ++ V.fail n :: vs.drop k, v.short 4294967 := by
  intro v hv
  rcases List.mem_append.1 hv with h1 | h1
  · exact h v (List.mem_of_mem_take h1)
  · rcases List.mem_cons.1 h1 with rfl | h1
    · exact trivial
    · exact h v (List.mem_of_mem_drop h1)
theorem call_with2 (s : ByteArray) (a b : Int) (h : lim s = (a, b)) (xs ys : List V) (n : Int) (hn : n ≠ 0) (g cap : Nat) (vs : List V) (hvs : vs = xs ++ V.fail n :: ys) (w : World) (hG : GM w) (hA : ArgsAt w g vs) (hs : ∀ v ∈ vs, v.short 4294967) (hx : ∀ v ∈ xs, v.asNum.2 = 0) :
    Calls Tryd.prog 48 #[.string s, .slice (some ⟨g, 0, none⟩) vs.length cap] w fun e w' => ∃ f, e = .returned (V.fail f).val ∧ (if 0 < b then f = n ∨ f = 3 else f = 6) ∧ Below w.heap.size w w' :=
  (call_with s xs ys n hn g cap vs hvs w hG hA hs hx).mono fun e w' ⟨f, he, hf, hb⟩ => ⟨f, he, by
    rw [h] at hf
    rcases hf with ⟨h1, h2⟩ | ⟨h1, h2⟩
    · have : b = 0 := congrArg Prod.snd h1
      rw [if_neg (by omega)]; exact h2
    · rw [if_pos h1]; exact h2, hb⟩
set_option maxHeartbeats 6400000 in
set_option maxRecDepth 100000 in
/-- the walk behind the guards: k of the plain data, a failure n put in at place 'at'' -/
theorem mathsFails_main (s : ByteArray) (ad : Option Addr) (len cap : Nat) (ps : List P) (hl : ps.length = min len 2) (hlc : len ≤ cap) (hcap : cap ≤ 9223372036854775807) (n : Int) (k : Nat) (hn : 1 ≤ n ∧ n ≤ 7) (hk : k ≤ ps.length) (w : World) (hM : GM w) (hT : GT w) (hU : Lib.Utf8Tabs 5 6 w) (h7 : 6 < w.heap.size)
    (hps : 0 < ps.length → ∃ b off, ad = some ⟨b, off, none⟩ ∧ PlainsAt w b off ps) :
    Calls Tryd.prog 12 #[.string s, .slice ad len cap, .int .i64 n, .int .i64 (k : Int)] w fun e w' => e = .returned (.bool true) ∧ Below w.heap.size w w' := by
  have HAW := Lib.hid fun w hM hT => awake16 w hM hT
  obtain ⟨lo, hi, hlim⟩ : ∃ a b, lim s = (a, b) := ⟨_, _, rfl⟩
  have HLim := Lib.hid hlim
  have HNil := Lib.hid fun (h : 0 < hi) w => call_nil s w (by rw [hlim]; exact h)
  have HHas := Lib.hid fun k hk w => has_any s lo hi w hlim k hk
  clear hlim
  have HM := Lib.hid hM
  have HT := Lib.hid hT
  have HU := Lib.hid hU
  have HFew := Lib.hid fun w => few_any ad len cap ps.length hl hlc hcap w
  have HArgs := Lib.hid fun c => args_plains ad c ps (by omega) w hU h7 hps
  have hm : (vsOf ps).length = ps.length := by simp [vsOf]
  have HShort := Lib.hid (vsOf_short ps)
  generalize vsOf ps = vs at *
  obtain ⟨m, hmm⟩ : ∃ m, m = vs.length := ⟨_, rfl⟩
  have HMM := Lib.hid hmm
  rw [← hm] at hk hl HFew HArgs
  rw [← hmm] at hk hl HFew HArgs
  have hm2 : m ≤ 2 := by omega
  clear hM hT hU hps hm hmm hl hlc hcap
  have hn0 : ¬ n = 0 := by omega
  obtain ⟨hn1, hn7⟩ := hn
  go_enter Tryd.func12, Tryd.ntmps12
  go_wp2_with (first | (go_at_call 42; fail))
  go_at_call 42
  refine (HFew.out _).mono ?_
  rintro e w' ⟨c0, rfl, hc0, rfl⟩
  go_wp2_with (first | (go_at_call 43; fail))
  go_at_call 43
  refine (HArgs.out c0).mono ?_
  rintro e w1 ⟨g, c, rs, rfl, hg, hc, hb1⟩
  have HG := Lib.hid hg
  have HA := Lib.hid (show GathersR w1 w.heap.size (.slice (some ⟨g, 0, none⟩) vs.length c) vs rs by rw [← HMM.out]; exact hg).args
  have hcm : m ≤ c := hc
  have HB1 := Lib.hid hb1
  have hs1 := hb1.size
  clear hg hc hb1 HFew HArgs
  go_wp2
  go_loopw [42] (fun i wr => ∃ k : Nat, i = .int .i64 k ∧ k ≤ m ∧ Hid (∀ v ∈ vs.take k, v.asNum.2 = 0) ∧ Hid (Below w1.heap.size w1 wr)) (fun i _ => m - (RowKit.intOf i).toNat)
  case atStart => exact ⟨0, rfl, Nat.zero_le _, Lib.hid (fun v hv => by simp at hv), Lib.hid (Below.refl _ _)⟩
  case round =>
    obtain ⟨q, rfl, hq, hgood, hbl⟩ := hrel
    by_cases hqm : q < m
    · obtain ⟨v, hv⟩ : ∃ v, vs[q]? = some v := ⟨vs[q]'(by rw [← HMM.out]; exact hqm), List.getElem?_eq_getElem _⟩
      obtain ⟨r, hh, hcc0, hcc1, hcc2, hcc3⟩ := (HA.out.below hbl.out).2 q v hv
      obtain ⟨nn, f, hf⟩ : ∃ nn f, v.asNum = (nn, f) := ⟨_, _, rfl⟩
      have HV := Lib.hid hv
      have HF := Lib.hid hf
      have HH := Lib.hid hh
      have hsz := hbl.out.size
      clear hv hf hh
      go_wp2_with (first | (go_at_call 45; fail))
      go_at_call 45
      refine (argValue_one v r _ (HH.out.below (B := wr.heap.size) (by go_grown) HH.out.1)).mono ?_
      rintro e w2 ⟨rfl, hb2⟩
      have hr2 : Below wr.heap.size wr w2 := ((Below.refl _ _).alloc (Nat.le_refl _) _).trans (hb2.mono (by simp))
      clear hb2
      have hb12 : Below w1.heap.size w1 w2 := hbl.out.trans (hr2.mono hsz)
      have hb02 : Below w.heap.size w w2 := HB1.out.trans (hb12.mono hs1)
      go_wp2_with (first | (go_at_call 44; fail))
      go_at_call 44
      refine (asNumber_is v nn f _ (HM.out.below hb02) (short_at HShort.out HV.out) HF.out).mono ?_
      rintro e w3 ⟨rfl, hb3⟩
      have hb13 : Hid (Below w1.heap.size w1 w3) := Lib.hid (hb12.trans (hb3.mono hb12.size))
      have hb03 : Hid (Below w.heap.size w w3) := Lib.hid (hb02.trans (hb3.mono hb02.size))
      clear hr2 hb12 hb02 hb3 hcc0 hcc1 hcc2 hcc3
      by_cases h0 : f = 0
      · subst h0
        go_wp2
        go_roundw
        case rel => exact ⟨q + 1, rfl, by omega, Lib.hid (fun u hu => by
          rw [List.take_add_one, HV.out] at hu
          rcases List.mem_append.1 hu with h | h
          · exact hgood.out u h
          · simp at h; subst h; rw [HF.out]), hb13⟩
        case measure => simp [RowKit.intOf]; omega
      · have hf0 : (f == 0) = false := by rw [beq_eq_false_iff_ne]; exact h0
        have hM3 := HM.out.below hb03.out
        have hT3 := HT.out.below hb03.out
        go_wp2_with (first | (go_at_call 40; fail))
        go_at_call 40
        refine (HAW.out _ hM3 hT3).mono ?_
        rintro e w4 ⟨rfl, hb4⟩
        have hb04 : Below w.heap.size w w4 := hb03.out.trans (hb4.mono hb03.out.size)
        go_wp2
        go_ret
        exact ⟨rfl, hb04⟩
    · have hqk : q = m := by omega
      subst hqk
      have HXs : Hid (∀ v ∈ vs.take k, v.asNum.2 = 0) := Lib.hid (fun v hv => hgood.out v (List.mem_of_mem_take (by rw [List.take_take]; rw [Nat.min_eq_left hk]; exact hv)))
      have hsz := hbl.out.size
      have HGr := Lib.hid (HG.out.below hbl.out)
      have HBr := Lib.hid (HB1.out.trans (hbl.out.mono hs1))
      clear hgood
      have hrl : rs.length = vs.length := HG.out.1
      have hgl : g < wr.heap.size := own_lt HGr.out.2.1 g rfl
      have hst := fun w => slice_to g q c k hk hcm w
      have hsf := fun w => slice_from g q c k hk w
      obtain ⟨x3, hx3⟩ : ∃ x : Addr, x = (if c = k then ⟨g, 0, none⟩ else ⟨g, k * 4, none⟩) := ⟨_, rfl⟩
      rw [← hx3] at hsf
      have HX3 := Lib.hid hx3
      clear hx3
      have HOr := Lib.hid (show wr.ownsRow w.heap.size 61 4 (.slice (some ⟨g, 0, none⟩) q c) q (rs.flatMap argCells) by have := HGr.out.2.1; rw [← HMM.out] at this; exact this)
      have HBS : w.heap.size ≤ wr.heap.size := HBr.out.size
      go_wp2_with (first | (at_builtin; refine append_args rfl _ _ rfl wr.heap.size (.slice (some ⟨wr.heap.size, 0, none⟩) 0 0) [] (vs.take k) [] (rs.take k) rfl (GathersR.nil _ _ _ (owns_empty wr)) ⟨g, 0, none⟩ k c rfl (by rw [List.length_take, hrl, ← HMM.out]; omega) (by rw [List.length_take, ← HMM.out]; omega) ?c1 ?c2 (by simp; omega) (by simp) ?_))
      case c1 =>
        intro _ j u hu
        have e := flat_take rs k j u hu
        have hj : j < q * 4 := by have := (List.getElem?_eq_some_iff.1 e).1; rw [flat_len, hrl, ← HMM.out] at this; exact this
        rw [Go.WideShapes.add_plain, Nat.zero_add, World.cell?_alloc_past _ _ _ hgl]
        exact (HOr.out.cellAt j hj).trans e
      case c2 =>
        intro i r u h1 h2
        have := HGr.out.2.2 i r u (take_at _ _ _ _ h1) (take_at _ _ _ _ h2)
        exact ⟨this.1.below ((Below.refl _ _).alloc (Nat.le_refl _) _) this.1.1, by intro e; simp [Value.ownBlock] at e; have := this.1.1; omega⟩
      intro v1 wa hga hgrow1 hat1
      have hra : Below wr.heap.size wr wa := ((Below.refl _ _).alloc (Nat.le_refl _) _).grown hgrow1 (by simp) (fun k e => by simp [Value.ownBlock] at e; omega)
      have hsa := hra.size
      have HGa := Lib.hid hga
      have HRa := Lib.hid hra
      clear hga hgrow1 hat1 hra hst
      go_wp2_with (first | (go_at_call 46; fail))
      go_at_call 46
      refine (one_any (.fail n) _).mono ?_
      rintro e wb ⟨r0, rfl, hr0, hh0, hb0⟩
      have hrb : Below wr.heap.size wr wb := HRa.out.trans (hb0.mono hsa)
      have HRb := Lib.hid hrb
      have hsb := hrb.size
      have HGb := Lib.hid (HGa.out.below hb0)
      have HOb := Lib.hid (show v1.ownBlock ≠ some r0 from fun e => by have := own_lt HGa.out.2.1 r0 e; omega)
      have HH0 := Lib.hid hh0
      clear hr0 hh0 hb0 hrb HGa HRa hsa
      go_wp2_with (first | (at_builtin; refine append_args rfl _ _ rfl wr.heap.size v1 ([] ++ vs.take k) [.fail n] ([] ++ rs.take k) [r0] rfl (HGb.out.below ((Below.refl _ _).alloc (Nat.le_refl _) _)) ⟨wb.heap.size, 0, none⟩ 1 1 rfl rfl rfl (fun _ => news_block wb (argCells r0) 61) ?c3 (by simp; omega) (by simp; omega) ?_))
      case c3 =>
        intro i r u h1 h2
        match i, h1, h2 with
        | 0, h1, h2 =>
          simp at h1 h2; subst h1 h2
          exact ⟨HH0.out.below ((Below.refl _ _).alloc (Nat.le_refl _) _) HH0.out.1, HOb.out⟩
      intro v2 wc hgc hgrow2 hat2
      have hrc : Below wr.heap.size wr wc := (HRb.out.alloc hsb _).grown hgrow2 (by simp; omega) (owns_row HGb.out.2.1)
      have hsc := hrc.size
      have HGc := Lib.hid hgc
      have HRc := Lib.hid hrc
      clear hgc hgrow2 hat2 hrc HGb HRb hsb HOb HH0
      go_wp2_with (first | (at_builtin; refine append_args rfl _ _ rfl wr.heap.size v2 ([] ++ vs.take k ++ [.fail n]) (vs.drop k) ([] ++ rs.take k ++ [r0]) (rs.drop k) rfl HGc.out x3 (q - k) (c - k) rfl (by rw [List.length_drop, hrl, ← HMM.out]) (by rw [List.length_drop, ← HMM.out]) ?c4 ?c5 (by simp; omega) (by omega) ?_))
      case c4 =>
        intro h0 j u hu
        have e := flat_drop rs k j (by rw [hrl, ← HMM.out]; exact hk) u hu
        have hj : k * 4 + j < q * 4 := by have := (List.getElem?_eq_some_iff.1 e).1; rw [flat_len, hrl, ← HMM.out] at this; exact this
        rw [HX3.out, if_neg (by omega), Go.WideShapes.add_plain]
        exact (HRc.out.cell hgl).trans ((HOr.out.cellAt (k * 4 + j) hj).trans e)
      case c5 =>
        intro i r u h1 h2
        rw [List.getElem?_drop] at h1 h2
        have := HGr.out.2.2 _ r u h1 h2
        exact ⟨this.1.below HRc.out this.1.1, fun e => by have h3 := owns_row HGc.out.2.1 r e; have := this.1.1; omega⟩
      intro v3 wd hgd hgrow3 hat3
      have hrd : Below wr.heap.size wr wd := HRc.out.grown hgrow3 hsc (owns_row HGc.out.2.1)
      obtain ⟨ws, hws⟩ : ∃ ws, ws = List.take k vs ++ V.fail n :: List.drop k vs := ⟨_, rfl⟩
      rw [← hws] at hgd
      have HWS := Lib.hid hws
      clear hws
      obtain ⟨g3, cap3, rfl, _, hA3⟩ := hgd.at (by rw [HWS.out]; simp; omega)
      have HBd := Lib.hid (HBr.out.trans (hrd.mono HBS))
      have HK := Lib.hid (call_with2 s lo hi HLim.out (vs.take k) (vs.drop k) n hn0 g3 cap3 ws HWS.out wd (HM.out.below HBd.out) hA3 (HWS.out ▸ with_short vs k n HShort.out) HXs.out)
      have hsd := HBd.out.size
      clear hgd hgrow3 hat3 hrd hA3 HGc HRc hsc hsf
      clear HWS
      generalize ws.length = m3 at *
      go_wp2_with (first | (go_at_call 48; fail))
      go_at_call 48
      refine HK.out.mono ?_
      rintro e we ⟨f, rfl, hf, hbe⟩
      have HBe := Lib.hid (HBd.out.trans (hbe.mono hsd))
      have hse := HBe.out.size
      clear hbe hsd HBd HK
      have hMe := HM.out.below HBe.out
      have hTe := HT.out.below HBe.out
      have HFl := Lib.hid fun w => failed_any (.fail f) w
      simp only [V.failed] at HFl
      have HF3 := Lib.hid fun w => failed_any (.fail 3) w
      simp only [V.failed] at HF3
      by_cases h : 0 < hi
      · rw [if_pos h] at hf
        have HHt := Lib.hid fun w => HHas.out true (decide_eq_true h) w
        have HN := Lib.hid fun w => HNil.out h w
        clear h
        go_wp2_with (first
          | (go_at_call 47; refine (HFl.out _).mono ?_; rintro e w' ⟨rfl, rfl⟩)
          | (go_at_call 49; refine (HHt.out _).mono ?_; rintro e w' ⟨rfl, rfl⟩)
          | (go_at_call 48; fail))
        go_at_call 48
        refine (HN.out _).mono ?_
        rintro e wf ⟨rfl, hbf⟩
        have HBf := Lib.hid (HBe.out.trans (hbf.mono hse))
        have hsf := HBf.out.size
        have hMf := HM.out.below HBf.out
        have hTf := HT.out.below HBf.out
        clear hbf hMe hTe hse HBe
        rcases hf with rfl | rfl
        all_goals
          go_wp2_with (first
            | (go_at_call 47; refine (HF3.out _).mono ?_; rintro e w' ⟨rfl, rfl⟩)
            | (go_at_call 40; refine (HAW.out _ hMf hTf).mono ?_; rintro e w' ⟨rfl, hb⟩))
          all_goals go_ret
          all_goals exact ⟨by simp, HBf.out.trans (hb.mono hsf)⟩
      · rw [if_neg h] at hf
        subst hf
        have HHt := Lib.hid fun w => HHas.out false (decide_eq_false h) w
        clear h
        go_wp2_with (first
          | (go_at_call 47; refine (HFl.out _).mono ?_; rintro e w' ⟨rfl, rfl⟩)
          | (go_at_call 49; refine (HHt.out _).mono ?_; rintro e w' ⟨rfl, rfl⟩)
          | (go_at_call 40; refine (HAW.out _ hMe hTe).mono ?_; rintro e w' ⟨rfl, hb⟩))
        all_goals go_ret
        all_goals exact ⟨rfl, HBe.out.trans (hb.mono hse)⟩
end Go.Proofs.YtkobkeopajohiaaDoor
