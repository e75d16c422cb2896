/-
  THE WALK of the law ValueOrder: values are held against one another in one order.
-/
import Derived.Test.YtkobkeopajohiaaDoorG9
import Derived.Test.YtkobkeopajohiaaDoorG7
import Derived.Test.YtkobkeopajohiaaDoorG5
namespace Go.Proofs.YtkobkeopajohiaaDoor
open Go.RowKit Go.Lib

def V.kind : V → Int | .num _ => 1 | .text _ => 2 | .bool _ => 3 | .fail _ => 4 | .blank => 0
theorem tell_kind (v : V) : ∃ b s, v.tell = .agg #[.int .i64 v.kind, .int .i64 b, .string s] := by
  cases v <;> exact ⟨_, _, rfl⟩
theorem plain_of_kind (v : V) (h0 : v.kind ≠ 0) (h4 : v.kind ≠ 4) : v.plain := by
  cases v <;> simp [V.kind, V.plain] at *
theorem cmp_range (a b : V) : -1 ≤ a.cmp b ∧ a.cmp b ≤ 1 := by
  unfold V.cmp
  generalize a.as b = x
  generalize b.as a = y
  unfold cmpOf
  split
  · split
    · rcases cb_range (great _).data.toList (great _).data.toList with h | h | h <;> rw [h] <;> decide
    · repeat' split
      all_goals decide
    · repeat' split
      all_goals decide
  · split <;> decide
theorem of_short2 (p : P) : p.of.short 4294967296 := by
  obtain ⟨k, n, s⟩ := p
  unfold P.of
  repeat' split
  all_goals first | exact trivial | (rename_i h; exact Nat.le_trans h.2 (by decide))

set_option maxHeartbeats 3200000 in
set_option maxRecDepth 100000 in
theorem valueOrder_main (w : World) (p q o : P) (hM : GM w) (hU : Lib.Utf8Tabs 5 6 w) (h7 : 6 < w.heap.size) (hp : p.s.size ≤ 9223372036854775800) (hq : q.s.size ≤ 9223372036854775800) (ho : o.s.size ≤ 9223372036854775800) :
    Calls Tryd.prog 13 #[p.val, q.val, o.val] w fun e w' => e = .returned (.bool true) ∧ Below w.heap.size w w' := by
  have HAW := Lib.hid fun w hM => awake15 w hM
  have HMp := Lib.hid fun w hU h7 => lawMade_any p w hU h7 hp
  have HMq := Lib.hid fun w hU h7 => lawMade_any q w hU h7 hq
  have HMo := Lib.hid fun w hU h7 => lawMade_any o w hU h7 ho
  have sa := of_short2 p
  have sb := of_short2 q
  have sc := of_short2 o
  generalize p.of = a at *
  generalize q.of = b at *
  generalize o.of = c at *
  obtain ⟨n1, s1, e1⟩ := tell_kind a
  obtain ⟨n2, s2, e2⟩ := tell_kind b
  obtain ⟨n3, s3, e3⟩ := tell_kind c
  rw [e1] at HMp
  rw [e2] at HMq
  rw [e3] at HMo
  clear e1 e2 e3 hp hq ho
  have HAB := Lib.hid fun w => cmp_any a b w sa sb
  have HBA := Lib.hid fun w => cmp_any b a w sb sa
  have HAA := Lib.hid fun w => cmp_any a a w sa sa
  have HBC := Lib.hid fun w => cmp_any b c w sb sc
  have HAC := Lib.hid fun w => cmp_any a c w sa sc
  have HPL := Lib.hid (And.intro (plain_of_kind a) (And.intro (plain_of_kind b) (plain_of_kind c)))
  have HSW := Lib.hid fun ha hb => cmp_swap a b ha hb
  have HSE := Lib.hid fun ha => cmp_self a ha
  have HTR := Lib.hid fun ha hb hc => cmp_trans a b c ha hb hc
  have HR1 := cmp_range a b
  have HR2 := cmp_range b c
  have HR3 := cmp_range a c
  have HM := Lib.hid hM
  have HU := Lib.hid hU
  clear hM hU sa sb sc
  generalize a.kind = k1 at *
  generalize b.kind = k2 at *
  generalize c.kind = k3 at *
  generalize a.cmp b = ab at *
  generalize b.cmp a = ba at *
  generalize a.cmp a = aa at *
  generalize b.cmp c = bc at *
  generalize a.cmp c = ac at *
  generalize a.plain = pa at *
  generalize b.plain = pb at *
  generalize c.plain = pc at *
  rw [V.val_eq] at HMp HMq HMo
  simp only [V.val_eq] at HAB HBA HAA HBC HAC
  generalize a.ty = ta at *
  generalize a.raw = xa at *
  generalize b.ty = tb at *
  generalize b.raw = xb at *
  generalize c.ty = tc at *
  generalize c.raw = xc at *
  obtain ⟨pk, pn, ps⟩ := p
  obtain ⟨qk, qn, qs⟩ := q
  obtain ⟨ok, on, os⟩ := o
  simp only [P.val] at HMp HMq HMo ⊢
  have hW3 : Below w.heap.size w (((w.alloc (.cells #[.int .i64 pk, .int .i64 pn, .string ps] 75)).alloc (.cells #[.int .i64 qk, .int .i64 qn, .string qs] 75)).alloc (.cells #[.int .i64 ok, .int .i64 on, .string os] 75)) :=
    (((Below.refl _ _).alloc (Nat.le_refl _) _).alloc (by simp) _).alloc (by simp; omega) _
  have cq : ∀ j, (((w.alloc (.cells #[.int .i64 pk, .int .i64 pn, .string ps] 75)).alloc (.cells #[.int .i64 qk, .int .i64 qn, .string qs] 75)).alloc (.cells #[.int .i64 ok, .int .i64 on, .string os] 75)).cell? ⟨w.heap.size + 1, j, none⟩ = (#[Value.int .i64 qk, .int .i64 qn, .string qs])[j]? := fun j => by
    rw [World.cell?_alloc_past _ _ _ (by simp), World.cell?_alloc_at _ _ _ _ (by simp)]
  have co : ∀ j, (((w.alloc (.cells #[.int .i64 pk, .int .i64 pn, .string ps] 75)).alloc (.cells #[.int .i64 qk, .int .i64 qn, .string qs] 75)).alloc (.cells #[.int .i64 ok, .int .i64 on, .string os] 75)).cell? ⟨w.heap.size + 1 + 1, j, none⟩ = (#[Value.int .i64 ok, .int .i64 on, .string os])[j]? := fun j => by
    rw [World.cell?_alloc_at _ _ _ _ (by simp)]
  have hz3 : (((w.alloc (.cells #[.int .i64 pk, .int .i64 pn, .string ps] 75)).alloc (.cells #[.int .i64 qk, .int .i64 qn, .string qs] 75)).alloc (.cells #[.int .i64 ok, .int .i64 on, .string os] 75)).heap.size = w.heap.size + 3 := by simp
  have HW3 := Lib.hid hW3
  have HQ := Lib.hid cq
  have HO := Lib.hid co
  have HZ := Lib.hid hz3
  clear hW3 cq co hz3
  go_enter Tryd.func13, Tryd.ntmps13
  go_wp2_with (first | (go_at_call 50; fail))
  generalize (((w.alloc (.cells #[.int .i64 pk, .int .i64 pn, .string ps] 75)).alloc (.cells #[.int .i64 qk, .int .i64 qn, .string qs] 75)).alloc (.cells #[.int .i64 ok, .int .i64 on, .string os] 75)) = W3 at *
  have hU3 := tabs_below HU.out HW3.out h7
  have h73 : 6 < W3.heap.size := by rw [HZ.out]; omega
  go_at_call 50
  refine (HMp.out _ hU3 h73).mono ?_
  rintro e w1 ⟨rfl, hb1⟩
  have hz1 := hb1.size
  rw [HZ.out] at hz1
  have hl1 : w.heap.size + 1 < w1.heap.size := by omega
  have HB1 := Lib.hid (HW3.out.trans (hb1.mono HW3.out.size))
  have cq : ∀ j, (w1.alloc (.cells #[.int .i64 k1, .int .i64 n1, .string s1] 77)).cell? ⟨w.heap.size + 1, j, none⟩ = (#[Value.int .i64 qk, .int .i64 qn, .string qs])[j]? := fun j => by
    rw [World.cell?_alloc_past _ _ _ hl1, hb1.cell (by rw [HZ.out]; show w.heap.size + 1 < _; omega)]
    exact HQ.out j
  have co : ∀ j, w1.cell? ⟨w.heap.size + 1 + 1, j, none⟩ = (#[Value.int .i64 ok, .int .i64 on, .string os])[j]? := fun j => by
    rw [hb1.cell (by rw [HZ.out]; show w.heap.size + 1 + 1 < _; omega)]
    exact HO.out j
  have q0 := cq 0
  have q1 := cq 1
  have q2 := cq 2
  have HO1 := Lib.hid co
  simp only [List.getElem?_toArray, List.getElem?_cons_zero, List.getElem?_cons_succ] at q0 q1 q2
  have hA1 : Hid ((w1.alloc (.cells #[.int .i64 k1, .int .i64 n1, .string s1] 77)).heap.size = w1.heap.size + 1) := Lib.hid (by simp)
  have hx1 : Hid ((w1.alloc (.cells #[.int .i64 k1, .int .i64 n1, .string s1] 77)).cell? ⟨w1.heap.size, 0, none⟩ = some (.int .i64 k1)) := Lib.hid (by rw [World.cell?_alloc_at _ _ _ _ rfl]; rfl)
  have hBA1 : Hid (Below w1.heap.size w1 (w1.alloc (.cells #[.int .i64 k1, .int .i64 n1, .string s1] 77))) := Lib.hid ((Below.refl _ _).alloc (Nat.le_refl _) _)
  clear hb1 hU3 h73 cq co
  go_wp2_with (first | (go_at_call 50; fail))
  clear q0 q1 q2
  generalize w1.alloc (.cells #[.int .i64 k1, .int .i64 n1, .string s1] 77) = A1 at *
  have hU3 := tabs_below HU.out (HB1.out.trans (hBA1.out.mono HB1.out.size)) h7
  have h73 : 6 < A1.heap.size := by rw [hA1.out]; omega
  go_at_call 50
  refine (HMq.out _ hU3 h73).mono ?_
  rintro e w2 ⟨rfl, hb2⟩
  have hz2 := hb2.size
  rw [hA1.out] at hz2
  have HB2 := Lib.hid ((HB1.out.trans (hBA1.out.mono HB1.out.size)).trans (hb2.mono (by rw [hA1.out]; omega)))
  have hl2 : w.heap.size + 1 + 1 < w2.heap.size := by omega
  have co : ∀ j, (w2.alloc (.cells #[.int .i64 k2, .int .i64 n2, .string s2] 77)).cell? ⟨w.heap.size + 1 + 1, j, none⟩ = (#[Value.int .i64 ok, .int .i64 on, .string os])[j]? := fun j => by
    rw [World.cell?_alloc_past _ _ _ hl2, hb2.cell (by rw [hA1.out]; show w.heap.size + 1 + 1 < _; omega), hBA1.out.cell (by show w.heap.size + 1 + 1 < _; omega)]
    exact HO1.out j
  have q0 := co 0
  have q1 := co 1
  have q2 := co 2
  simp only [List.getElem?_toArray, List.getElem?_cons_zero, List.getElem?_cons_succ] at q0 q1 q2
  have hx2 : Hid ((w2.alloc (.cells #[.int .i64 k2, .int .i64 n2, .string s2] 77)).cell? ⟨w2.heap.size, 0, none⟩ = some (.int .i64 k2)) := Lib.hid (by rw [World.cell?_alloc_at _ _ _ _ rfl]; rfl)
  have hx1' : Hid ((w2.alloc (.cells #[.int .i64 k2, .int .i64 n2, .string s2] 77)).cell? ⟨w1.heap.size, 0, none⟩ = some (.int .i64 k1)) := Lib.hid (by
    rw [World.cell?_alloc_past _ _ _ (by show w1.heap.size < _; omega), hb2.cell (by rw [hA1.out]; show w1.heap.size < _; omega)]; exact hx1.out)
  have hA2 : Hid ((w2.alloc (.cells #[.int .i64 k2, .int .i64 n2, .string s2] 77)).heap.size = w2.heap.size + 1) := Lib.hid (by simp)
  have hBA2 : Hid (Below w2.heap.size w2 (w2.alloc (.cells #[.int .i64 k2, .int .i64 n2, .string s2] 77))) := Lib.hid ((Below.refl _ _).alloc (Nat.le_refl _) _)
  clear hb2 hU3 h73 co hx1
  go_wp2_with (first | (go_at_call 50; fail))
  clear q0 q1 q2
  generalize w2.alloc (.cells #[.int .i64 k2, .int .i64 n2, .string s2] 77) = A2 at *
  have hU3 := tabs_below HU.out (HB2.out.trans (hBA2.out.mono HB2.out.size)) h7
  have h73 : 6 < A2.heap.size := by rw [hA2.out]; omega
  go_at_call 50
  refine (HMo.out _ hU3 h73).mono ?_
  rintro e w3 ⟨rfl, hb3⟩
  have hz3 := hb3.size
  rw [hA2.out] at hz3
  have HB3 := Lib.hid ((HB2.out.trans (hBA2.out.mono HB2.out.size)).trans (hb3.mono (by rw [hA2.out]; omega)))
  have x1 : (w3.alloc (.cells #[.int .i64 k3, .int .i64 n3, .string s3] 77)).cell? ⟨w1.heap.size, 0, none⟩ = some (.int .i64 k1) := by
    rw [World.cell?_alloc_past _ _ _ (by show w1.heap.size < _; omega), hb3.cell (by rw [hA2.out]; show w1.heap.size < _; omega)]; exact hx1'.out
  have x2 : (w3.alloc (.cells #[.int .i64 k3, .int .i64 n3, .string s3] 77)).cell? ⟨w2.heap.size, 0, none⟩ = some (.int .i64 k2) := by
    rw [World.cell?_alloc_past _ _ _ (by show w2.heap.size < _; omega), hb3.cell (by rw [hA2.out]; show w2.heap.size < _; omega)]; exact hx2.out
  clear hb3 hU3 h73 hx1' hx2 hA1 hA2 hBA1 hBA2 HB1 HB2 HO1 HQ HO HZ HW3
  have hs3 := HB3.out.size
  have HB4 : Hid (Below w.heap.size w ((w3.alloc (.cells #[.int .i64 k3, .int .i64 n3, .string s3] 77)).alloc (.cells #[.int .i64 k1, .int .i64 k2, .int .i64 k3] 3))) :=
    Lib.hid ((HB3.out.alloc hs3 _).alloc (by simp; omega) _)
  have hs4 := HB4.out.size
  have hM4 := HM.out.below HB4.out
  go_wp2
  clear x1 x2
  by_cases e1 : k1 = 0 ∨ k1 = 4
  · rcases e1 with rfl | rfl
    all_goals
      refine wp_loop_rounds 4 ?_
      rw [rounds_succ]
      go_wp2_with (first | (go_at_call 51; fail))
      go_at_call 51
      refine (HAW.out _ hM4).mono ?_
      rintro e w5 ⟨rfl, hb5⟩
      have hb := HB4.out.trans (hb5.mono hs4)
      go_wp2
      go_ret
      exact ⟨rfl, hb⟩
  have f1 : (k1 == 0) = false := by rw [beq_eq_false_iff_ne]; exact fun h => e1 (.inl h)
  have g1 : (k1 == 4) = false := by rw [beq_eq_false_iff_ne]; exact fun h => e1 (.inr h)
  have hPa := HPL.out.1 (fun h => e1 (.inl h)) (fun h => e1 (.inr h))
  clear e1
  by_cases e2 : k2 = 0 ∨ k2 = 4
  · rcases e2 with rfl | rfl
    all_goals
      refine wp_loop_rounds 4 ?_
      rw [rounds_succ]
      go_wp2
      rw [rounds_succ]
      go_wp2_with (first | (go_at_call 51; fail))
      go_at_call 51
      refine (HAW.out _ hM4).mono ?_
      rintro e w5 ⟨rfl, hb5⟩
      have hb := HB4.out.trans (hb5.mono hs4)
      go_wp2
      go_ret
      exact ⟨rfl, hb⟩
  have f2 : (k2 == 0) = false := by rw [beq_eq_false_iff_ne]; exact fun h => e2 (.inl h)
  have g2 : (k2 == 4) = false := by rw [beq_eq_false_iff_ne]; exact fun h => e2 (.inr h)
  have hPb := HPL.out.2.1 (fun h => e2 (.inl h)) (fun h => e2 (.inr h))
  clear e2
  by_cases e3 : k3 = 0 ∨ k3 = 4
  · rcases e3 with rfl | rfl
    all_goals
      refine wp_loop_rounds 4 ?_
      rw [rounds_succ]
      go_wp2
      rw [rounds_succ]
      go_wp2
      rw [rounds_succ]
      go_wp2_with (first | (go_at_call 51; fail))
      go_at_call 51
      refine (HAW.out _ hM4).mono ?_
      rintro e w5 ⟨rfl, hb5⟩
      have hb := HB4.out.trans (hb5.mono hs4)
      go_wp2
      go_ret
      exact ⟨rfl, hb⟩
  have f3 : (k3 == 0) = false := by rw [beq_eq_false_iff_ne]; exact fun h => e3 (.inl h)
  have g3 : (k3 == 4) = false := by rw [beq_eq_false_iff_ne]; exact fun h => e3 (.inr h)
  have hPc := HPL.out.2.2 (fun h => e3 (.inl h)) (fun h => e3 (.inr h))
  clear e3
  have h0 := HSE.out hPa
  have h1 := HSW.out hPa hPb
  have h2 := HTR.out hPa hPb hPc
  subst h0
  have HBA' : Hid (∀ w, Calls Tryd.prog 52 #[.iface tb xb, .iface ta xa] w fun e w' => e = .returned (.int .i64 (-ab)) ∧ Below w.heap.size w w') := by rw [← h1]; exact HBA
  have h3 : ab ≤ 0 → bc ≤ 0 → ac ≤ 0 := h2
  clear h2 HPL HSE HSW HTR hPa hPb hPc HBA h1
  refine wp_loop_rounds 4 ?_
  rw [rounds_succ]
  go_wp2
  rw [rounds_succ]
  go_wp2
  rw [rounds_succ]
  go_wp2
  rw [rounds_succ]
  clear f1 f2 f3 g1 g2 g3
  go_wp2_with (first | (go_at_call 52; fail))
  go_at_call 52
  refine (HAB.out _).mono ?_
  rintro e w5 ⟨rfl, hb5⟩
  have HB5 := Lib.hid (HB4.out.trans (hb5.mono hs4))
  have hs5 := HB5.out.size
  clear hb5 hs4 HB4 hM4
  go_wp2_with (first | (go_at_call 52; fail))
  go_at_call 52
  refine (HBA'.out _).mono ?_
  rintro e w6 ⟨rfl, hb6⟩
  have HB6 := Lib.hid (HB5.out.trans (hb6.mono hs5))
  have hs6 := HB6.out.size
  clear hb6 hs5 HB5
  have hn : wrap64 (-(-ab)) = ab := by rw [Int.neg_neg]; exact IntWalk.wrap64_in ab ⟨by omega, by omega⟩
  go_wp2_with (first | (go_at_call 52; fail))
  go_at_call 52
  refine (HAA.out _).mono ?_
  rintro e w7 ⟨rfl, hb7⟩
  have HB7 := Lib.hid (HB6.out.trans (hb7.mono hs6))
  have hs7 := HB7.out.size
  have hM7 := HM.out.below HB7.out
  clear hb7 hs6 HB6 hn
  go_wp2_with (first | (go_at_call 51; fail))
  go_at_call 51
  refine (HAW.out _ hM7).mono ?_
  rintro e w8 ⟨rfl, hb8⟩
  have HB8 := Lib.hid (HB7.out.trans (hb8.mono hs7))
  have hs8 := HB8.out.size
  clear hb8 hs7 HB7 hM7
  go_wp2_with (first | (go_at_call 52; fail))
  go_at_call 52
  refine (HAB.out _).mono ?_
  rintro e w9 ⟨rfl, hb9⟩
  have HB9 := Lib.hid (HB8.out.trans (hb9.mono hs8))
  have hs9 := HB9.out.size
  clear hb9 hs8 HB8
  by_cases p1 : 0 < ab
  · clear h3
    go_wp2
    go_ret
    exact ⟨rfl, HB9.out⟩
  go_wp2_with (first | (go_at_call 52; fail))
  go_at_call 52
  refine (HBC.out _).mono ?_
  rintro e wa ⟨rfl, hba⟩
  have HBa := Lib.hid (HB9.out.trans (hba.mono hs9))
  have hsa := HBa.out.size
  clear hba hs9 HB9
  by_cases p2 : 0 < bc
  · clear h3
    go_wp2
    go_ret
    exact ⟨rfl, HBa.out⟩
  have p3 : ac ≤ 0 := h3 (by omega) (by omega)
  clear h3
  go_wp2_with (first | (go_at_call 52; fail))
  go_at_call 52
  refine (HAC.out _).mono ?_
  rintro e wb ⟨rfl, hbb⟩
  have HBb := Lib.hid (HBa.out.trans (hbb.mono hsa))
  clear hbb hsa HBa
  go_wp2
  go_ret
  exact ⟨rfl, HBb.out⟩
end Go.Proofs.YtkobkeopajohiaaDoor
