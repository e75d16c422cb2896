/-
  ARGUMENTS AS NUMBERS: the first failure ends it.
-/
import Derived.Test.YtkobkeopajohiaaGreatDoorV2
import Derived.Deep.AppendLies
import Derived.LoopTactic
namespace Go.Proofs.YtkobkeopajohiaaGreatDoor
open Go.RowKit Go.Lib

/-- block g begins with the arguments vs, one value each -/
def ArgsAt (w : World) (g : Nat) (vs : List V) : Prop := g < w.heap.size ∧ ∀ k v, vs[k]? = some v →
  ∃ r, Held w r v ∧ w.cell? ⟨g, k * 4, none⟩ = some (.int .i64 1) ∧ w.cell? ⟨g, k * 4 + 1, none⟩ = some (.int .i64 1) ∧ w.cell? ⟨g, k * 4 + 2, none⟩ = some (.bool false) ∧
    w.cell? ⟨g, k * 4 + 3, none⟩ = some (.slice (some ⟨r, 0, none⟩) 1 1)
theorem ArgsAt.below {w w' : World} {g : Nat} {vs : List V} (h : ArgsAt w g vs) (hb : Below w.heap.size w w') : ArgsAt w' g vs :=
  ⟨Nat.lt_of_lt_of_le h.1 hb.size, fun k v e => by
    obtain ⟨r, h1, h2, h3, h4, h5⟩ := h.2 k v e
    exact ⟨r, h1.below hb h1.1, (hb.cell h.1).trans h2, (hb.cell h.1).trans h3, (hb.cell h.1).trans h4, (hb.cell h.1).trans h5⟩⟩

/-- what the values are as numbers: the first failure ends it -/
def nums : List V → List Int → List Int × Int
  | [], a => (a, 0)
  | v :: l, a => if v.asNum.2 = 0 then nums l (a ++ [v.asNum.1]) else ([], v.asNum.2)

theorem info22 : (Tryz.prog.info? 39).map (fun i => (i.zero, i.size, i.bytes)) = some (some (.int .i64 0), 1, 8) := by kernel_rfl

theorem nums_cons (v : V) (l : List V) (a : List Int) (n f : Int) (h : v.asNum = (n, f)) : nums (v :: l) a = if f = 0 then nums l (a ++ [n]) else ([], f) := by simp [nums, h]
theorem short_at {vs : List V} (hs : ∀ v ∈ vs, v.short 4294967) {k : Nat} {v : V} (h : vs[k]? = some v) : v.short 4294967 := hs v (List.mem_of_getElem? h)

theorem owns_below {w w' : World} {base : Nat} {e : TypeId} {size : Nat} {v : Value} {n : Nat} {xs : List Value} (h : w.ownsRow base e size v n xs) (hb : Below w.heap.size w w') : w'.ownsRow base e size v n xs :=
  ⟨h.1, h.2.imp id fun ⟨g, cap, cur, hv, h1, hg, rest⟩ => ⟨g, cap, cur, hv, h1, (hb.block g (by
    rcases Nat.lt_or_ge g w.heap.size with h2 | h2
    · exact h2
    · rw [Array.getElem?_eq_none h2] at hg; cases hg)).trans hg, rest⟩⟩

theorem owns_row {w : World} {base : Nat} {e : TypeId} {size : Nat} {v : Value} {n : Nat} {xs : List Value} (h : w.ownsRow base e size v n xs) (k : Nat) (hk : v.ownBlock = some k) : base ≤ k := by
  rcases h.2 with ⟨rfl, _⟩ | ⟨g, cap, cur, rfl, h1, _⟩
  · cases hk
  · have : g = k := by simpa [Value.ownBlock] using hk
    omega
theorem news_one (w : World) (v : Value) (T : TypeId) : ∀ (j : Nat) (u : Value), [v][j]? = some u → (w.alloc (.cells #[v] T)).cell? ((⟨w.heap.size, 0, none⟩ : Addr).add j) = some u := fun j u h => by
  match j, h with
  | 0, h =>
    simp at h; subst h
    rw [show ((⟨w.heap.size, 0, none⟩ : Addr).add 0) = ⟨w.heap.size, 0, none⟩ from rfl, World.cell?_alloc_at _ _ _ _ rfl]
    rfl

set_option maxHeartbeats 1600000 in
set_option maxRecDepth 100000 in
theorem numbers_any (vs : List V) (g cap : Nat) (w : World) (hG : GM w) (hA : ArgsAt w g vs) (hs : ∀ v ∈ vs, v.short 4294967) (hn : vs.length ≤ 1000) (R : List Int × Int) (hR : nums vs [] = R) :
    Calls Tryz.prog 40 #[.slice (some ⟨g, 0, none⟩) vs.length cap] w fun e w' => ∃ l, e = .returned (.tuple #[l, .int .i64 R.2]) ∧
      (R.2 = 0 → w'.ownsRow w.heap.size 39 1 l R.1.length (R.1.map (Value.int .i64))) ∧ Below w.heap.size w w' := by
  obtain ⟨i0, hi, hz0, hz1, hz2⟩ := info_parts info22
  have HR := Lib.hid hR
  have HA := Lib.hid hA
  have HG := Lib.hid hG
  have HS := Lib.hid hs
  clear hR hA hG hs
  obtain ⟨n, hnn⟩ : ∃ n, n = vs.length := ⟨_, rfl⟩
  have HN := Lib.hid hnn
  rw [← hnn] at hn ⊢
  clear hnn
  go_enter Tryz.func40, Tryz.ntmps40
  go_wp2
  go_loopw [4, 11] (fun l i wr => ∃ (k : Nat) (acc : List Int), i = .int .i64 k ∧ k ≤ n ∧ Hid (acc.length = k) ∧ Hid (wr.ownsRow w.heap.size 39 1 l acc.length (acc.map (Value.int .i64))) ∧ Hid (nums (vs.drop k) acc = R) ∧ Below w.heap.size w wr)
    (fun _ i _ => n - (RowKit.intOf i).toNat)
  case atStart => exact ⟨0, [], rfl, Nat.zero_le _, Lib.hid rfl, Lib.hid (World.ownsRow_nil _ _ _ _), Lib.hid HR.out, Below.refl _ _⟩
  case round =>
    obtain ⟨k, acc, rfl, hk, hlen, hown, hinv, hbl⟩ := hrel
    by_cases hkn : k < n
    · obtain ⟨v, hv⟩ : ∃ v, vs[k]? = some v := ⟨vs[k]'(by rw [← HN.out]; exact hkn), List.getElem?_eq_getElem _⟩
      obtain ⟨r, hh, hc0, hc1, hc2, hc3⟩ := (HA.out.below hbl).2 k v hv
      obtain ⟨nn, f, hf⟩ : ∃ nn f, v.asNum = (nn, f) := ⟨_, _, rfl⟩
      have HV := Lib.hid hv
      have HF := Lib.hid hf
      have HH := Lib.hid hh
      have hsz := hbl.size
      have HD : Hid (vs.drop k = v :: vs.drop (k + 1)) := by
        have e := List.getElem?_eq_some_iff.1 hv
        obtain ⟨e1, e2⟩ := e
        exact Lib.hid (by rw [List.drop_eq_getElem_cons e1, e2])
      clear hv hf hh
      by_cases h0 : f = 0
      · subst h0
        go_wp2_with (first | (go_at_call 79; fail))
        go_at_call 79
        refine (argValue_one v r _ (HH.out.below (B := wr.heap.size) (by go_grown) HH.out.1)).mono ?_
        rintro e w1 ⟨rfl, hb1⟩
        have hr1 : Below wr.heap.size wr w1 := ((Below.refl _ _).alloc (Nat.le_refl _) _).trans (hb1.mono (by simp))
        have hb01 : Below w.heap.size w w1 := hbl.trans (hr1.mono hsz)
        go_wp2_with (first | (go_at_call 27; fail))
        go_at_call 27
        refine (asNumber_is v nn 0 _ (HG.out.below hb01) (short_at HS.out HV.out) HF.out).mono ?_
        rintro e w2 ⟨rfl, hb2⟩
        have hr2 : Below wr.heap.size wr w2 := hr1.trans (hb2.mono hr1.size)
        have hb02 : Below w.heap.size w w2 := hbl.trans (hr2.mono hsz)
        have hs2 := hb02.size
        have hown2 := Lib.hid (owns_below hown.out hr2)
        have HL := Lib.hid (show acc.length + 1 ≤ 1000 by have := hlen.out; omega)
        clear hr1 hb01 hb1 hb2 hc0 hc1 hc2 hc3 hown hbl hr2
        go_wp2_with (first | (at_builtin; refine wpList_append_own _ rfl _ _ 77 rfl w.heap.size 39 i0 (.int .i64 0) 1 8 Tryz.underlying77 hi hz0 hz1 hz2 rfl (by decide) _ _ _ rfl (hown2.out.alloc _) ⟨w2.heap.size, 0, none⟩ 1 1 [.int .i64 nn] rfl rfl ?c1 ?c2 ?c3 ?c4 ?c5 ?_))
        case c1 => exact news_one _ _ _
        case c2 => intro u hu; simp at hu; subst hu; rfl
        case c3 => have := HL.out; unfold maxLen; omega
        case c4 => have := HL.out; omega
        case c5 => simp; omega
        · intro v' w3 hown3 hgrow3 _
          have hb03 := Lib.hid ((hb02.alloc hs2 _).grown hgrow3 (by simp; omega) (owns_row hown2.out))
          have HO := Lib.hid hown3
          clear hown3 hgrow3 hb02 hown2
          go_wp2
          go_roundw
          case rel => exact ⟨k + 1, acc ++ [nn], rfl, by omega, Lib.hid (by simp [hlen.out]), Lib.hid (by simpa using HO.out), Lib.hid (by rw [← hinv.out, HD.out, nums_cons _ _ _ _ _ HF.out, if_pos rfl]), hb03.out⟩
          case measure => simp [RowKit.intOf]; omega
      · go_wp2_with (first | (go_at_call 79; fail))
        go_at_call 79
        refine (argValue_one v r _ (HH.out.below (B := wr.heap.size) (by go_grown) HH.out.1)).mono ?_
        rintro e w1 ⟨rfl, hb1⟩
        have hr1 : Below wr.heap.size wr w1 := ((Below.refl _ _).alloc (Nat.le_refl _) _).trans (hb1.mono (by simp))
        have hb01 : Below w.heap.size w w1 := hbl.trans (hr1.mono hsz)
        go_wp2_with (first | (go_at_call 27; fail))
        go_at_call 27
        refine (asNumber_is v nn f _ (HG.out.below hb01) (short_at HS.out HV.out) HF.out).mono ?_
        rintro e w2 ⟨rfl, hb2⟩
        have hr2 : Below wr.heap.size wr w2 := hr1.trans (hb2.mono hr1.size)
        have hb02 : Below w.heap.size w w2 := hbl.trans (hr2.mono hsz)
        have hR : Hid (R.2 = f) := Lib.hid (by rw [← hinv.out, HD.out, nums_cons _ _ _ _ _ HF.out, if_neg h0])
        clear hr1 hb01 hb1 hb2 hc0 hc1 hc2 hc3 hown hbl hr2
        have hf0 : (f == 0) = false := by rw [beq_eq_false_iff_ne]; exact h0
        go_wp2
        go_ret2
        exact ⟨_, by rw [hR.out]; rfl, fun h => absurd h (by rw [hR.out]; exact h0), hb02⟩
    · have hkk : k = n := by omega
      have hR : Hid (R = (acc, 0)) := Lib.hid (by rw [← hinv.out, hkk, HN.out, List.drop_length]; rfl)
      go_wp2
      go_ret2
      exact ⟨_, by rw [hR.out]; rfl, fun _ => by rw [hR.out]; exact hown.out, hbl⟩
end Go.Proofs.YtkobkeopajohiaaGreatDoor
