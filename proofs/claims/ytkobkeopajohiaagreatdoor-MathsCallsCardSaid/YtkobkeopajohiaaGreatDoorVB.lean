/-
  NUMBERS: products and quotients within one word; steps of places.
  NUMBERS: 10 to a power below nought.
  ARGUMENTS AS NUMBERS: the first failure ends it.
  NUMBERS: away from nought; the second number, as a count of places.
-/
import Derived.Test.YtkobkeopajohiaaGreatDoorVA
import Derived.Test.YtkobkeopajohiaaGreatDoorRR
import Derived.Deep.AppendLies
import Derived.LoopTactic
namespace Go.Proofs.YtkobkeopajohiaaGreatDoor
open Go.RowKit Go.Lib

/-- the rounded quotient that lies within one word -/
def quotL (lo y : Int) : Int × Bool :=
  if 999999999999999999 < lo / y then (0, false)
  else if y - lo % y ≤ lo % y then (lo / y + 1, decide (lo / y + 1 ≤ 999999999999999999)) else (lo / y, true)

set_option maxRecDepth 100000 in
theorem quot_is (lo y q : Int) (ok : Bool) (w : World) (h0 : 0 ≤ lo) (h1 : lo < 18446744073709551616) (hy : 1 ≤ y) (hy1 : y < 18446744073709551616) (h : quotL lo y = (q, ok)) :
    Calls Tryz.prog 142 #[.int .u64 0, .int .u64 lo, .int .u64 y] w fun e w' => e = .returned (.tuple #[.int .u64 q, .bool ok]) ∧ ∃ n, w' = w.drewN n := by
  have b0 := Int.ediv_nonneg h0 (show 0 ≤ y by omega)
  have b1 := Int.ediv_le_self y h0
  have hr0 := Int.emod_nonneg lo (show y ≠ 0 by omega)
  have hr1 := Int.emod_lt_of_pos lo (show 0 < y by omega)
  have HD := Lib.hid fun w => div64_zero lo y w h0 h1 hy hy1
  unfold quotL at h
  have hq1 : lo / y < 18446744073709551616 := by omega
  clear h0 h1 b1
  generalize lo / y = d at *
  generalize lo % y = r at *
  by_cases hd : 999999999999999999 < d
  · rw [if_pos hd] at h
    obtain ⟨rfl, rfl⟩ := Prod.mk.inj h
    clear h
    go_enter Tryz.func142, Tryz.ntmps142
    go_wp2_with (first
      | (go_at_call 152; refine (HD.out _).mono ?_; rintro e w' ⟨rfl, n, rfl⟩))
    go_ret2
    exact ⟨rfl, _, rfl⟩
  · rw [if_neg hd] at h
    by_cases hr : y - r ≤ r
    · rw [if_pos hr] at h
      obtain ⟨rfl, hk⟩ := Prod.mk.inj h
      have HK := Lib.hid hk
      clear h hk
      go_enter Tryz.func142, Tryz.ntmps142
      go_wp2_with (first
        | (go_at_call 152; refine (HD.out _).mono ?_; rintro e w' ⟨rfl, n, rfl⟩))
      go_ret2
      exact ⟨ret_ib rfl (by rw [← HK.out]), _, rfl⟩
    · rw [if_neg hr] at h
      obtain ⟨rfl, rfl⟩ := Prod.mk.inj h
      clear h
      go_enter Tryz.func142, Tryz.ntmps142
      go_wp2_with (first
        | (go_at_call 152; refine (HD.out _).mono ?_; rintro e w' ⟨rfl, n, rfl⟩))
      go_ret2
      exact ⟨ret_ib rfl (by first | rfl | exact decide_eq_true (by omega)), _, rfl⟩

set_option maxRecDepth 100000 in
/-- a product of two numbers that are not below nought, within one word, and not too great -/
theorem mul_lo (a b q : Int) (w : World) (ha : 0 ≤ a ∧ a ≤ 999999999999999999) (hb : 0 ≤ b ∧ b ≤ 999999999999999999) (h1 : a * b < 18446744073709551616) (h : quotL (a * b) 10000 = (q, true)) (hq : 0 ≤ q ∧ q ≤ 999999999999999999) :
    Calls Tryz.prog 95 #[.int .i64 a, .int .i64 b] w fun e w' => e = .returned (.tuple #[.int .i64 q, .bool true]) ∧ ∃ n, w' = w.drewN n := by
  have h0 := Int.mul_nonneg ha.1 hb.1
  have HQ := Lib.hid fun w => quot_is (a * b) 10000 q true w h0 h1 (by omega) (by omega) h
  have HM := Lib.hid fun w => mul_ii a b 0 (a * b) w ha.1 (by omega) hb.1 (by omega) (by omega) h0 h1 (by omega)
  generalize a * b = p at *
  clear h h0 h1
  obtain ⟨a0, a1⟩ := ha
  obtain ⟨b0, b1⟩ := hb
  obtain ⟨q0, q1⟩ := hq
  have e1 : (a.natAbs : Int) = a := by omega
  have e2 : (b.natAbs : Int) = b := by omega
  have HA := Lib.hid fun w => size_any a w (by omega) (by omega)
  have HB := Lib.hid fun w => size_any b w (by omega) (by omega)
  rw [e1] at HA
  rw [e2] at HB
  clear e1 e2
  go_enter Tryz.func95, Tryz.ntmps95
  go_wp2_with (first
    | (go_at_call_of 115 (Value.int IntKind.i64 a); refine (HA.out _).mono ?_; rintro e w' ⟨rfl, rfl⟩)
    | (go_at_call_of 115 (Value.int IntKind.i64 b); refine (HB.out _).mono ?_; rintro e w' ⟨rfl, rfl⟩)
    | (go_at_call 122; refine (HM.out _).mono ?_; rintro e w' ⟨rfl, rfl⟩)
    | (go_at_call 142; refine (HQ.out _).mono ?_; rintro e w' ⟨rfl, n, rfl⟩)
    | (go_at_call 116; refine (made_int _ _ _ (by omega) (by omega)).mono ?_; rintro e w' ⟨rfl, rfl⟩))
  go_ret2
  have hm : (!decide (a < 0) == decide (b < 0)) = false := by rw [decide_eq_false (show ¬ a < 0 by omega), decide_eq_false (show ¬ b < 0 by omega)]; rfl
  have hn : ¬ 999999999999999999 < q.toNat := by omega
  exact ⟨ret_ib (by rw [hm, Tab.made, if_neg hn]; show ((q.toNat : Nat) : Int) = q; omega) (by rw [hm, Tab.made, if_neg hn]), _, rfl⟩

set_option maxRecDepth 100000 in
theorem unit108 (n : Int) (w : World) (h : n = 1 ∨ n = 2 ∨ n = 3 ∨ n = 4) :
    Calls Tryz.prog 118 #[.int .i64 n] w fun e w' => e = .returned (.int .i64 (10000 / 10 ^ n.toNat)) ∧ w = w' := by
  rcases h with rfl | rfl | rfl | rfl <;> simp only [Int.reduceToNat, Int.reducePow, Int.reduceDiv] <;>
  · go_enter Tryz.func118, Tryz.ntmps118
    go_wp2
    go_rounds 6
    all_goals go_ret
    all_goals exact ⟨ret_int (by decide), rfl⟩
end Go.Proofs.YtkobkeopajohiaaGreatDoor
namespace Go.Proofs.YtkobkeopajohiaaGreatDoor
open Go.RowKit Go.Lib

set_option maxRecDepth 100000 in
theorem div_lo (a b q : Int) (w : World) (ha : 0 ≤ a ∧ a ≤ 999999999999999) (hb : 1 ≤ b ∧ b ≤ 999999999999999999) (h : quotL (a * 10000) b = (q, true)) (hq : 0 ≤ q ∧ q ≤ 999999999999999999) :
    Calls Tryz.prog 96 #[.int .i64 a, .int .i64 b] w fun e w' => e = .returned (.tuple #[.int .i64 q, .bool true]) ∧ ∃ n, w' = w.drewN n := by
  have h0 : 0 ≤ a * 10000 := by omega
  have h1 : a * 10000 < 18446744073709551616 := by omega
  have HQ := Lib.hid fun w => quot_is (a * 10000) b q true w h0 h1 (by omega) (by omega) h
  have HM := Lib.hid fun w => mul_ii a 10000 0 (a * 10000) w ha.1 (by omega) (by omega) (by omega) (by omega) h0 h1 (by omega)
  generalize a * 10000 = p at *
  clear h h0 h1
  obtain ⟨a0, a1⟩ := ha
  obtain ⟨b0, b1⟩ := hb
  obtain ⟨q0, q1⟩ := hq
  have hb' : (b == 0) = false := by rw [beq_eq_false_iff_ne]; omega
  have e1 : (a.natAbs : Int) = a := by omega
  have e2 : (b.natAbs : Int) = b := by omega
  have HA := Lib.hid fun w => size_any a w (by omega) (by omega)
  have HB := Lib.hid fun w => size_any b w (by omega) (by omega)
  rw [e1] at HA
  rw [e2] at HB
  clear e1 e2
  go_enter Tryz.func96, Tryz.ntmps96
  go_wp2_with (first
    | (go_at_call_of 115 (Value.int IntKind.i64 a); refine (HA.out _).mono ?_; rintro e w' ⟨rfl, rfl⟩)
    | (go_at_call_of 115 (Value.int IntKind.i64 b); refine (HB.out _).mono ?_; rintro e w' ⟨rfl, rfl⟩)
    | (go_at_call 122; refine (HM.out _).mono ?_; rintro e w' ⟨rfl, rfl⟩)
    | (go_at_call 142; refine (HQ.out _).mono ?_; rintro e w' ⟨rfl, n, rfl⟩)
    | (go_at_call 116; refine (made_int _ _ _ (by omega) (by omega)).mono ?_; rintro e w' ⟨rfl, rfl⟩))
  go_ret2
  have hm : (!decide (a < 0) == decide (b < 0)) = false := by rw [decide_eq_false (show ¬ a < 0 by omega), decide_eq_false (show ¬ b < 0 by omega)]; rfl
  have hn : ¬ 999999999999999999 < q.toNat := by omega
  exact ⟨ret_ib (by rw [hm, Tab.made, if_neg hn]; show ((q.toNat : Nat) : Int) = q; omega) (by rw [hm, Tab.made, if_neg hn]), _, rfl⟩

set_option maxHeartbeats 1600000 in
set_option maxRecDepth 100000 in
/-- 10 to the power of so many places, below nought -/
theorem pow_tens (n : Int) (w : World) (h : n = 0 ∨ n = 1 ∨ n = 2 ∨ n = 3 ∨ n = 4) :
    Calls Tryz.prog 117 #[.int .i64 100000, .int .i64 (-n)] w fun e w' => e = .returned (.tuple #[.int .i64 (10000 / 10 ^ n.toNat), .bool true]) ∧ ∃ n, w' = w.drewN n := by
  have m1 := Lib.hid fun w => mul_lo 10000 100000 100000 w (by decide) (by decide) (by decide) (by decide) (by decide)
  have m2 := Lib.hid fun w => mul_lo 100000 100000 1000000 w (by decide) (by decide) (by decide) (by decide) (by decide)
  have m3 := Lib.hid fun w => mul_lo 1000000 100000 10000000 w (by decide) (by decide) (by decide) (by decide) (by decide)
  have m4 := Lib.hid fun w => mul_lo 10000000 100000 100000000 w (by decide) (by decide) (by decide) (by decide) (by decide)
  have d1 := Lib.hid fun w => div_lo 10000 100000 1000 w (by decide) (by decide) (by decide) (by decide)
  have d2 := Lib.hid fun w => div_lo 10000 1000000 100 w (by decide) (by decide) (by decide) (by decide)
  have d3 := Lib.hid fun w => div_lo 10000 10000000 10 w (by decide) (by decide) (by decide) (by decide)
  have d4 := Lib.hid fun w => div_lo 10000 100000000 1 w (by decide) (by decide) (by decide) (by decide)
  rcases h with rfl | rfl | rfl | rfl | rfl <;> simp only [Int.reduceToNat, Int.reducePow, Int.reduceDiv, Int.reduceNeg] <;>
  · go_enter Tryz.func117, Tryz.ntmps117
    go_wp2
    refine wp_loop_rounds 6 ?_
    repeat any_goals (rw [rounds_succ]; go_wp2_with (first
      | (go_at_call_of 95 (Value.int IntKind.i64 10000); refine (m1.out _).mono ?_; rintro e w' ⟨rfl, n, rfl⟩)
      | (go_at_call_of 95 (Value.int IntKind.i64 1000000); refine (m3.out _).mono ?_; rintro e w' ⟨rfl, n, rfl⟩)
      | (go_at_call_of 95 (Value.int IntKind.i64 10000000); refine (m4.out _).mono ?_; rintro e w' ⟨rfl, n, rfl⟩)
      | (go_at_call_of 95 (Value.int IntKind.i64 100000); refine (m2.out _).mono ?_; rintro e w' ⟨rfl, n, rfl⟩)
      | (go_at_call_of 96 (Value.int IntKind.i64 100000); refine (d1.out _).mono ?_; rintro e w' ⟨rfl, n, rfl⟩)
      | (go_at_call_of 96 (Value.int IntKind.i64 1000000); refine (d2.out _).mono ?_; rintro e w' ⟨rfl, n, rfl⟩)
      | (go_at_call_of 96 (Value.int IntKind.i64 10000000); refine (d3.out _).mono ?_; rintro e w' ⟨rfl, n, rfl⟩)
      | (go_at_call_of 96 (Value.int IntKind.i64 100000000); refine (d4.out _).mono ?_; rintro e w' ⟨rfl, n, rfl⟩)))
    all_goals go_ret2
    all_goals exact ⟨rfl, by first | exact ⟨_, rfl⟩ | exact ⟨0, rfl⟩⟩
end Go.Proofs.YtkobkeopajohiaaGreatDoor
namespace Go.Proofs.YtkobkeopajohiaaGreatDoor
open Go.RowKit Go.Lib

/-- block g begins with the arguments vs, one value each -/
def ArgsAt (w : World) (g : Nat) (vs : List V) : Prop := g < w.heap.size ∧ ∀ k v, vs[k]? = some v →
  ∃ r, Held w r v ∧ w.cell? ⟨g, k * 4, none⟩ = some (.int .i64 1) ∧ w.cell? ⟨g, k * 4 + 1, none⟩ = some (.int .i64 1) ∧ w.cell? ⟨g, k * 4 + 2, none⟩ = some (.bool false) ∧
    w.cell? ⟨g, k * 4 + 3, none⟩ = some (.slice (some ⟨r, 0, none⟩) 1 1)
theorem ArgsAt.below {w w' : World} {g : Nat} {vs : List V} (h : ArgsAt w g vs) (hb : Below w.heap.size w w') : ArgsAt w' g vs :=
  ⟨Nat.lt_of_lt_of_le h.1 hb.size, fun k v e => by
    obtain ⟨r, h1, h2, h3, h4, h5⟩ := h.2 k v e
    exact ⟨r, h1.below hb h1.1, (hb.cell h.1).trans h2, (hb.cell h.1).trans h3, (hb.cell h.1).trans h4, (hb.cell h.1).trans h5⟩⟩

/-- what the values are as numbers: the first failure ends it -/
def nums : List V → List Int → List Int × Int
  | [], a => (a, 0)
  | v :: l, a => if v.asNum.2 = 0 then nums l (a ++ [v.asNum.1]) else ([], v.asNum.2)

theorem info22 : (Tryz.prog.info? 39).map (fun i => (i.zero, i.size, i.bytes)) = some (some (.int .i64 0), 1, 8) := by kernel_rfl

theorem nums_cons (v : V) (l : List V) (a : List Int) (n f : Int) (h : v.asNum = (n, f)) : nums (v :: l) a = if f = 0 then nums l (a ++ [n]) else ([], f) := by simp [nums, h]
theorem short_at {vs : List V} (hs : ∀ v ∈ vs, v.short 4294967) {k : Nat} {v : V} (h : vs[k]? = some v) : v.short 4294967 := hs v (List.mem_of_getElem? h)

theorem owns_below {w w' : World} {base : Nat} {e : TypeId} {size : Nat} {v : Value} {n : Nat} {xs : List Value} (h : w.ownsRow base e size v n xs) (hb : Below w.heap.size w w') : w'.ownsRow base e size v n xs :=
  ⟨h.1, h.2.imp id fun ⟨g, cap, cur, hv, h1, hg, rest⟩ => ⟨g, cap, cur, hv, h1, (hb.block g (by
    rcases Nat.lt_or_ge g w.heap.size with h2 | h2
    · exact h2
    · rw [Array.getElem?_eq_none h2] at hg; cases hg)).trans hg, rest⟩⟩

theorem owns_row {w : World} {base : Nat} {e : TypeId} {size : Nat} {v : Value} {n : Nat} {xs : List Value} (h : w.ownsRow base e size v n xs) (k : Nat) (hk : v.ownBlock = some k) : base ≤ k := by
  rcases h.2 with ⟨rfl, _⟩ | ⟨g, cap, cur, rfl, h1, _⟩
  · cases hk
  · have : g = k := by simpa [Value.ownBlock] using hk
    omega
theorem news_one (w : World) (v : Value) (T : TypeId) : ∀ (j : Nat) (u : Value), [v][j]? = some u → (w.alloc (.cells #[v] T)).cell? ((⟨w.heap.size, 0, none⟩ : Addr).add j) = some u := fun j u h => by
  match j, h with
  | 0, h =>
    simp at h; subst h
    rw [show ((⟨w.heap.size, 0, none⟩ : Addr).add 0) = ⟨w.heap.size, 0, none⟩ from rfl, World.cell?_alloc_at _ _ _ _ rfl]
    rfl

set_option maxHeartbeats 1600000 in
set_option maxRecDepth 100000 in
theorem numbers_any (vs : List V) (g cap : Nat) (w : World) (hG : GM w) (hA : ArgsAt w g vs) (hs : ∀ v ∈ vs, v.short 4294967) (hn : vs.length ≤ 1000) (R : List Int × Int) (hR : nums vs [] = R) :
    Calls Tryz.prog 40 #[.slice (some ⟨g, 0, none⟩) vs.length cap] w fun e w' => ∃ l, e = .returned (.tuple #[l, .int .i64 R.2]) ∧
      (R.2 = 0 → w'.ownsRow w.heap.size 39 1 l R.1.length (R.1.map (Value.int .i64))) ∧ Below w.heap.size w w' := by
  obtain ⟨i0, hi, hz0, hz1, hz2⟩ := info_parts info22
  have HR := Lib.hid hR
  have HA := Lib.hid hA
  have HG := Lib.hid hG
  have HS := Lib.hid hs
  clear hR hA hG hs
  obtain ⟨n, hnn⟩ : ∃ n, n = vs.length := ⟨_, rfl⟩
  have HN := Lib.hid hnn
  rw [← hnn] at hn ⊢
  clear hnn
  go_enter Tryz.func40, Tryz.ntmps40
  go_wp2
  go_loopw [4, 11] (fun l i wr => ∃ (k : Nat) (acc : List Int), i = .int .i64 k ∧ k ≤ n ∧ Hid (acc.length = k) ∧ Hid (wr.ownsRow w.heap.size 39 1 l acc.length (acc.map (Value.int .i64))) ∧ Hid (nums (vs.drop k) acc = R) ∧ Below w.heap.size w wr)
    (fun _ i _ => n - (RowKit.intOf i).toNat)
  case atStart => exact ⟨0, [], rfl, Nat.zero_le _, Lib.hid rfl, Lib.hid (World.ownsRow_nil _ _ _ _), Lib.hid HR.out, Below.refl _ _⟩
  case round =>
    obtain ⟨k, acc, rfl, hk, hlen, hown, hinv, hbl⟩ := hrel
    by_cases hkn : k < n
    · obtain ⟨v, hv⟩ : ∃ v, vs[k]? = some v := ⟨vs[k]'(by rw [← HN.out]; exact hkn), List.getElem?_eq_getElem _⟩
      obtain ⟨r, hh, hc0, hc1, hc2, hc3⟩ := (HA.out.below hbl).2 k v hv
      obtain ⟨nn, f, hf⟩ : ∃ nn f, v.asNum = (nn, f) := ⟨_, _, rfl⟩
      have HV := Lib.hid hv
      have HF := Lib.hid hf
      have HH := Lib.hid hh
      have hsz := hbl.size
      have HD : Hid (vs.drop k = v :: vs.drop (k + 1)) := by
        have e := List.getElem?_eq_some_iff.1 hv
        obtain ⟨e1, e2⟩ := e
        exact Lib.hid (by rw [List.drop_eq_getElem_cons e1, e2])
      clear hv hf hh
      by_cases h0 : f = 0
      · subst h0
        go_wp2_with (first | (go_at_call 79; fail))
        go_at_call 79
        refine (argValue_one v r _ (HH.out.below (B := wr.heap.size) (by go_grown) HH.out.1)).mono ?_
        rintro e w1 ⟨rfl, hb1⟩
        have hr1 : Below wr.heap.size wr w1 := ((Below.refl _ _).alloc (Nat.le_refl _) _).trans (hb1.mono (by simp))
        have hb01 : Below w.heap.size w w1 := hbl.trans (hr1.mono hsz)
        go_wp2_with (first | (go_at_call 27; fail))
        go_at_call 27
        refine (asNumber_is v nn 0 _ (HG.out.below hb01) (short_at HS.out HV.out) HF.out).mono ?_
        rintro e w2 ⟨rfl, hb2⟩
        have hr2 : Below wr.heap.size wr w2 := hr1.trans (hb2.mono hr1.size)
        have hb02 : Below w.heap.size w w2 := hbl.trans (hr2.mono hsz)
        have hs2 := hb02.size
        have hown2 := Lib.hid (owns_below hown.out hr2)
        have HL := Lib.hid (show acc.length + 1 ≤ 1000 by have := hlen.out; omega)
        clear hr1 hb01 hb1 hb2 hc0 hc1 hc2 hc3 hown hbl hr2
        go_wp2_with (first | (at_builtin; refine wpList_append_own _ rfl _ _ 77 rfl w.heap.size 39 i0 (.int .i64 0) 1 8 Tryz.underlying77 hi hz0 hz1 hz2 rfl (by decide) _ _ _ rfl (hown2.out.alloc _) ⟨w2.heap.size, 0, none⟩ 1 1 [.int .i64 nn] rfl rfl ?c1 ?c2 ?c3 ?c4 ?c5 ?_))
        case c1 => exact news_one _ _ _
        case c2 => intro u hu; simp at hu; subst hu; rfl
        case c3 => have := HL.out; unfold maxLen; omega
        case c4 => have := HL.out; omega
        case c5 => simp; omega
        · intro v' w3 hown3 hgrow3 _
          have hb03 := Lib.hid ((hb02.alloc hs2 _).grown hgrow3 (by simp; omega) (owns_row hown2.out))
          have HO := Lib.hid hown3
          clear hown3 hgrow3 hb02 hown2
          go_wp2
          go_roundw
          case rel => exact ⟨k + 1, acc ++ [nn], rfl, by omega, Lib.hid (by simp [hlen.out]), Lib.hid (by simpa using HO.out), Lib.hid (by rw [← hinv.out, HD.out, nums_cons _ _ _ _ _ HF.out, if_pos rfl]), hb03.out⟩
          case measure => simp [RowKit.intOf]; omega
      · go_wp2_with (first | (go_at_call 79; fail))
        go_at_call 79
        refine (argValue_one v r _ (HH.out.below (B := wr.heap.size) (by go_grown) HH.out.1)).mono ?_
        rintro e w1 ⟨rfl, hb1⟩
        have hr1 : Below wr.heap.size wr w1 := ((Below.refl _ _).alloc (Nat.le_refl _) _).trans (hb1.mono (by simp))
        have hb01 : Below w.heap.size w w1 := hbl.trans (hr1.mono hsz)
        go_wp2_with (first | (go_at_call 27; fail))
        go_at_call 27
        refine (asNumber_is v nn f _ (HG.out.below hb01) (short_at HS.out HV.out) HF.out).mono ?_
        rintro e w2 ⟨rfl, hb2⟩
        have hr2 : Below wr.heap.size wr w2 := hr1.trans (hb2.mono hr1.size)
        have hb02 : Below w.heap.size w w2 := hbl.trans (hr2.mono hsz)
        have hR : Hid (R.2 = f) := Lib.hid (by rw [← hinv.out, HD.out, nums_cons _ _ _ _ _ HF.out, if_neg h0])
        clear hr1 hb01 hb1 hb2 hc0 hc1 hc2 hc3 hown hbl hr2
        have hf0 : (f == 0) = false := by rw [beq_eq_false_iff_ne]; exact h0
        go_wp2
        go_ret2
        exact ⟨_, by rw [hR.out]; rfl, fun h => absurd h (by rw [hR.out]; exact h0), hb02⟩
    · have hkk : k = n := by omega
      have hR : Hid (R = (acc, 0)) := Lib.hid (by rw [← hinv.out, hkk, HN.out, List.drop_length]; rfl)
      go_wp2
      go_ret2
      exact ⟨_, by rw [hR.out]; rfl, fun _ => by rw [hR.out]; exact hown.out, hbl⟩
end Go.Proofs.YtkobkeopajohiaaGreatDoor
namespace Go.Proofs.YtkobkeopajohiaaGreatDoor
open Go.RowKit Go.Lib

theorem counted_is (n : Int) (ok : Bool) (w : World) :
    Calls Tryz.prog 43 #[.int .i64 n, .bool ok] w fun e w' => e = .returned (if ok then V.num n else V.fail 2).val ∧ w = w' := by
  cases ok
  · exact counted_no n w
  · exact counted_yes n w
theorem counted_v (n : Int) (ok : Bool) (v : V) (w : World) (h : (if ok then V.num n else V.fail 2) = v) :
    Calls Tryz.prog 43 #[.int .i64 n, .bool ok] w fun e w' => e = .returned v.val ∧ w = w' := by
  subst h
  exact counted_is n ok w

theorem add_is (a b n : Int) (ok : Bool) (w : World) (h : -2000000000000000000 ≤ a + b ∧ a + b ≤ 2000000000000000000) (hf : Tab.fit (a + b) = (n, ok)) :
    Calls Tryz.prog 93 #[.int .i64 a, .int .i64 b] w fun e w' => e = .returned (.tuple #[.int .i64 n, .bool ok]) ∧ w = w' := by
  have := add_any a b w h
  rw [hf] at this
  exact this
theorem sub_is (a b n : Int) (ok : Bool) (w : World) (h : -2000000000000000000 ≤ a - b ∧ a - b ≤ 2000000000000000000) (hf : Tab.fit (a - b) = (n, ok)) :
    Calls Tryz.prog 94 #[.int .i64 a, .int .i64 b] w fun e w' => e = .returned (.tuple #[.int .i64 n, .bool ok]) ∧ w = w' := by
  have := sub_any a b w h
  rw [hf] at this
  exact this

/-- 1 in the last of so many places -/
def step (n : Int) : Int := 10000 / 10 ^ n.toNat
def awayV (a n : Int) : V :=
  if Tab.truncS a n = a then .num a
  else (if (Tab.fit (if a < 0 then Tab.truncS a n - step n else Tab.truncS a n + step n)).2 then .num (Tab.fit (if a < 0 then Tab.truncS a n - step n else Tab.truncS a n + step n)).1 else .fail 2)
theorem step_bd (n : Int) (h : n = 0 ∨ n = 1 ∨ n = 2 ∨ n = 3 ∨ n = 4) : 0 ≤ step n ∧ step n ≤ 10000 := by
  rcases h with rfl | rfl | rfl | rfl | rfl <;> decide

set_option maxRecDepth 100000 in
theorem away_is (a n : Int) (v : V) (w : World) (hG : GT w) (ha : -999999999999999999 ≤ a ∧ a ≤ 999999999999999999) (hn : n = 0 ∨ n = 1 ∨ n = 2 ∨ n = 3 ∨ n = 4) (hv : awayV a n = v) :
    Calls Tryz.prog 48 #[.int .i64 a, .int .i64 n] w fun e w' => e = .returned v.val ∧ ∃ n, w' = w.drewN n := by
  have HT := Lib.hid fun w hG => trunc_any a n w hG ha
  have HP := Lib.hid fun w => pow_tens n w hn
  have HU : n = 0 ∨ (0 < n ∧ Hid (∀ w, Calls Tryz.prog 118 #[.int .i64 n] w fun e w' => e = .returned (.int .i64 (step n)) ∧ w = w')) := by
    rcases hn with h | h
    · exact .inl h
    · exact .inr ⟨by omega, Lib.hid fun w => unit108 n w h⟩
  obtain ⟨t0, t1⟩ : -999999999999999999 ≤ Tab.truncS a n ∧ Tab.truncS a n ≤ 999999999999999999 := by
    have h1 : ¬ n < -14 := by omega
    unfold Tab.truncS
    rw [if_neg h1]
    split
    · exact ha
    · have := Tab.tmod_sub a (10 ^ (4 - n).toNat)
      omega
  obtain ⟨s0, s1⟩ := step_bd n hn
  have hn0 : 0 ≤ n ∧ n ≤ 4 := by omega
  rw [show (10000 / 10 ^ n.toNat : Int) = step n from rfl] at HP
  unfold awayV at hv
  generalize Tab.truncS a n = t at *
  generalize step n = u at *
  obtain ⟨n0, n1⟩ := hn0
  clear hn
  by_cases hta : t = a
  · rw [if_pos hta] at hv
    subst hv
    subst hta
    have hc : (t == t) = true := by simp
    go_enter Tryz.func48, Tryz.ntmps48
    go_wp2_with (first | (go_at_call 45; refine (HT.out _ hG).mono ?_; rintro e w' ⟨rfl, rfl⟩))
    go_ret
    exact ⟨rfl, 0, rfl⟩
  · rw [if_neg hta] at hv
    have hc : (t == a) = false := by rw [beq_eq_false_iff_ne]; exact hta
    by_cases hneg : a < 0
    · rw [if_pos hneg] at hv
      obtain ⟨m, ok, hm⟩ : ∃ m ok, Tab.fit (t - u) = (m, ok) := ⟨_, _, rfl⟩
      rw [hm] at hv
      have HS := Lib.hid fun w => sub_is t u m ok w (by omega) hm
      have HC := Lib.hid fun w => counted_v m ok v w hv
      clear hv hm hta
      rcases HU with rfl | ⟨hn1, HU⟩
      · rw [Int.neg_zero] at HP
        go_enter Tryz.func48, Tryz.ntmps48
        go_wp2_with (first
          | (go_at_call 45; refine (HT.out _ hG).mono ?_; rintro e w' ⟨rfl, rfl⟩)
          | (go_at_call 117; refine (HP.out _).mono ?_; rintro e w' ⟨rfl, k, rfl⟩)
          | (go_at_call 94; refine (HS.out _).mono ?_; rintro e w' ⟨rfl, rfl⟩)
          | (go_at_call 43; refine (HC.out _).mono ?_; rintro e w' ⟨rfl, rfl⟩))
        go_ret
        exact ⟨rfl, _, rfl⟩
      · go_enter Tryz.func48, Tryz.ntmps48
        go_wp2_with (first
          | (go_at_call 45; refine (HT.out _ hG).mono ?_; rintro e w' ⟨rfl, rfl⟩)
          | (go_at_call 117; refine (HP.out _).mono ?_; rintro e w' ⟨rfl, k, rfl⟩)
          | (go_at_call 118; refine (HU.out _).mono ?_; rintro e w' ⟨rfl, rfl⟩)
          | (go_at_call 94; refine (HS.out _).mono ?_; rintro e w' ⟨rfl, rfl⟩)
          | (go_at_call 43; refine (HC.out _).mono ?_; rintro e w' ⟨rfl, rfl⟩))
        go_ret
        exact ⟨rfl, _, rfl⟩
    · rw [if_neg hneg] at hv
      obtain ⟨m, ok, hm⟩ : ∃ m ok, Tab.fit (t + u) = (m, ok) := ⟨_, _, rfl⟩
      rw [hm] at hv
      have HS := Lib.hid fun w => add_is t u m ok w (by omega) hm
      have HC := Lib.hid fun w => counted_v m ok v w hv
      clear hv hm hta
      rcases HU with rfl | ⟨hn1, HU⟩
      · rw [Int.neg_zero] at HP
        go_enter Tryz.func48, Tryz.ntmps48
        go_wp2_with (first
          | (go_at_call 45; refine (HT.out _ hG).mono ?_; rintro e w' ⟨rfl, rfl⟩)
          | (go_at_call 117; refine (HP.out _).mono ?_; rintro e w' ⟨rfl, k, rfl⟩)
          | (go_at_call 93; refine (HS.out _).mono ?_; rintro e w' ⟨rfl, rfl⟩)
          | (go_at_call 43; refine (HC.out _).mono ?_; rintro e w' ⟨rfl, rfl⟩))
        go_ret
        exact ⟨rfl, _, rfl⟩
      · go_enter Tryz.func48, Tryz.ntmps48
        go_wp2_with (first
          | (go_at_call 45; refine (HT.out _ hG).mono ?_; rintro e w' ⟨rfl, rfl⟩)
          | (go_at_call 117; refine (HP.out _).mono ?_; rintro e w' ⟨rfl, k, rfl⟩)
          | (go_at_call 118; refine (HU.out _).mono ?_; rintro e w' ⟨rfl, rfl⟩)
          | (go_at_call 93; refine (HS.out _).mono ?_; rintro e w' ⟨rfl, rfl⟩)
          | (go_at_call 43; refine (HC.out _).mono ?_; rintro e w' ⟨rfl, rfl⟩))
        go_ret
        exact ⟨rfl, _, rfl⟩

/-- the second number -/
theorem second_two (b cap : Nat) (o n : Int) (w : World) (h : w.cell? ⟨b, 1, none⟩ = some (.int .i64 n)) :
    Calls Tryz.prog 50 #[.slice (some ⟨b, 0, none⟩) 2 cap, .int .i64 o] w fun e w' => e = .returned (.int .i64 n) ∧ w = w' := by
  go_enter Tryz.func50, Tryz.ntmps50
  go_wp2
  go_ret
  exact ⟨rfl, rfl⟩
/-- the second number, as a count of places that is none of many -/
theorem places_two (b cap : Nat) (k : Int) (w : World) (h : w.cell? ⟨b, 1, none⟩ = some (.int .i64 (k * 10000))) (hk : 0 ≤ k ∧ k ≤ 20) :
    Calls Tryz.prog 46 #[.slice (some ⟨b, 0, none⟩) 2 cap] w fun e w' => e = .returned (.int .i64 k) ∧ w = w' := by
  obtain ⟨k0, k1⟩ := hk
  have HS := Lib.hid (second_two b cap 0 (k * 10000) w h)
  have HW := Lib.hid fun w => whole_any (k * 10000) w (by omega) (by omega)
  rw [Int.mul_tdiv_cancel k (by decide)] at HW
  generalize k * 10000 = x at *
  clear h
  go_enter Tryz.func46, Tryz.ntmps46
  go_wp2_with (first
    | (go_at_call 50; refine HS.out.mono ?_; rintro e w' ⟨rfl, rfl⟩)
    | (go_at_call 114; refine (HW.out _).mono ?_; rintro e w' ⟨rfl, rfl⟩))
  go_ret
  exact ⟨ret_int (by omega), rfl⟩
end Go.Proofs.YtkobkeopajohiaaGreatDoor
