/-
  THE LAW HELPER Told OF LAYER 16: every argument as a plain datum.
-/
import Derived.Test.YtkobkeopajohiaaGreatDoorF5
import Derived.Test.YtkobkeopajohiaaGreatDoorS13
import Derived.Deep.AppendLies
import Derived.LoopTactic
namespace Go.Proofs.YtkobkeopajohiaaGreatDoor
open Go.RowKit Go.Lib
theorem info28 : (Tryz.prog.info? 28).map (fun i => (i.zero, i.size, i.bytes)) = some (some (.agg #[.int .i64 0, .int .i64 0, .string ⟨#[]⟩]), 3, 32) := by kernel_rfl
theorem owns_empty28 (w : World) : (w.alloc (.cells #[] 28)).ownsRow w.heap.size 28 3 (.slice (some ⟨w.heap.size, 0, none⟩) 0 0) 0 [] :=
  ⟨rfl, .inr ⟨w.heap.size, 0, #[], rfl, Nat.le_refl _, last_block _ _ _ rfl, Nat.le_refl _, Nat.zero_le _, rfl, rfl⟩⟩
/-- a plain datum's three cells -/
def tellC (v : V) : List Value := match v.tell with | .agg a => a.toList | _ => []
theorem tellC_of {v : V} {k n : Int} {s : ByteArray} (h : v.tell = .agg #[.int .i64 k, .int .i64 n, .string s]) : tellC v = [.int .i64 k, .int .i64 n, .string s] := by simp [tellC, h]
theorem tellC_len (v : V) : (tellC v).length = 3 := by
  obtain ⟨a, b, s, h⟩ := tell_form v
  rw [tellC_of h]; rfl
theorem tells_len (vs : List V) : (vs.flatMap tellC).length = vs.length * 3 := by
  induction vs with
  | nil => rfl
  | cons v t ih => rw [List.flatMap_cons, List.length_append, ih, tellC_len, List.length_cons]; omega
theorem tells_at : ∀ (vs : List V) (i : Nat) (v : V) (j : Nat), vs[i]? = some v → j < 3 → (vs.flatMap tellC)[i * 3 + j]? = (tellC v)[j]?
  | [], i, v, j, h, _ => by simp at h
  | x :: t, 0, v, j, h, hj => by
    simp at h; subst h
    rw [List.flatMap_cons, List.getElem?_append_left (by rw [tellC_len]; omega)]
    simp
  | x :: t, i + 1, v, j, h, hj => by
    rw [List.flatMap_cons, List.getElem?_append_right (by rw [tellC_len]; omega), tellC_len, show (i + 1) * 3 + j - 3 = i * 3 + j by omega]
    exact tells_at t i v j (by simpa using h) hj
theorem tellsAt_of {w : World} {base g n cap : Nat} {vs : List V} (hn : n = vs.length) (h : w.ownsRow base 28 3 (.slice (some ⟨g, 0, none⟩) n cap) n (vs.flatMap tellC)) : TellsAt w g vs := by
  refine ⟨own_lt h g rfl, fun i v k m s hv ht => ?_⟩
  have hi : i < vs.length := (List.getElem?_eq_some_iff.1 hv).1
  have hc : ∀ j, j < 3 → w.cell? ⟨g, i * 3 + j, none⟩ = (tellC v)[j]? := fun j hj => by
    rw [h.cellAt (i * 3 + j) (by omega), tells_at vs i v j hv hj]
  rw [tellC_of ht] at hc
  exact ⟨hc 0 (by omega), hc 1 (by omega), hc 2 (by omega)⟩
/-- nothing below is turned but block x -/
def Besides (x : Nat) (w w' : World) : Prop := w.heap.size ≤ w'.heap.size ∧ ∀ b, b < w.heap.size → b ≠ x → w'.heap[b]? = w.heap[b]?
theorem Besides.refl (x : Nat) (w : World) : Besides x w w := ⟨Nat.le_refl _, fun _ _ _ => rfl⟩
theorem Besides.more {x : Nat} {w w' w'' : World} (h : Besides x w w') (hb : Below w'.heap.size w' w'') : Besides x w w'' :=
  ⟨Nat.le_trans h.1 hb.size, fun b h1 h2 => (hb.block b (Nat.lt_of_lt_of_le h1 h.1)).trans (h.2 b h1 h2)⟩
theorem Besides.grow {x g : Nat} {w w' w'' : World} (h : Besides x w w') (hb : w'.grownBy w'' (some g)) (hg : g = x ∨ w.heap.size ≤ g) : Besides x w w'' :=
  ⟨Nat.le_trans h.1 hb.size, fun b h1 h2 => (hb.block b (Nat.lt_of_lt_of_le h1 h.1) (by
    intro e
    have e' : b = g := by simpa using e
    rcases hg with h3 | h3
    · exact h2 (by rw [e', h3])
    · omega)).trans (h.2 b h1 h2)⟩
theorem ArgsAt.besides {w w' : World} {ga x : Nat} {vs : List V} (h : ArgsAt w ga vs) (hb : Besides x w w') (hg : ga ≠ x) (hx : ∃ fr, w.heap[x]? = some (.cells #[] 28 fr)) : ArgsAt w' ga vs :=
  ⟨Nat.lt_of_lt_of_le h.1 hb.1, fun k v hv => by
    obtain ⟨r, hr, h0, h1, h2, h3⟩ := h.2 k v hv
    have hc : ∀ o, w'.cell? ⟨ga, o, none⟩ = w.cell? ⟨ga, o, none⟩ := fun o => World.cell?_of_block (hb.2 ga h.1 hg)
    have hrx : r ≠ x := by
      intro e
      obtain ⟨f1, hr1⟩ := hr.2
      obtain ⟨f2, hx1⟩ := hx
      rw [e, hx1] at hr1
      simp at hr1
    exact ⟨r, ⟨Nat.lt_of_lt_of_le hr.1 hb.1, hr.2.imp fun _ e => (hb.2 r hr.1 hrx).trans e⟩, (hc _).trans h0, (hc _).trans h1, (hc _).trans h2, (hc _).trans h3⟩⟩
set_option maxHeartbeats 3200000 in
set_option maxRecDepth 100000 in
theorem told16_any (ad : Option Addr) (m cap : Nat) (vs : List V) (hn : vs.length ≤ 1000) (w : World)
    (hargs : ∀ w', Below w.heap.size w w' → Calls Tryz.prog 14 #[.slice ad m cap] w' fun e w'' => ∃ g c rs, e = .returned (.slice (some ⟨g, 0, none⟩) vs.length c) ∧ GathersR w'' w'.heap.size (.slice (some ⟨g, 0, none⟩) vs.length c) vs rs ∧ vs.length ≤ c ∧ Below w'.heap.size w' w'') :
    Calls Tryz.prog 16 #[.slice ad m cap] w fun e w' => ∃ g c, e = .returned (.slice (some ⟨g, 0, none⟩) vs.length c) ∧ TellsAt w' g vs ∧ Below w.heap.size w w' := by
  obtain ⟨i0, hi, hz0, hz1, hz2⟩ := info_parts info28
  have HAR := Lib.hid hargs
  obtain ⟨n, hnn⟩ : ∃ n, n = vs.length := ⟨_, rfl⟩
  have HN := Lib.hid hnn
  rw [← hnn] at hn HAR ⊢
  clear hargs hnn
  go_enter Tryz.func16, Tryz.ntmps16
  go_wp2_with (first | (go_at_call 14; fail))
  go_at_call 14
  refine (HAR.out _ ((Below.refl _ _).alloc (Nat.le_refl _) _)).mono ?_
  rintro e w1 ⟨ga, ca, rs, rfl, hgr, hca, hb1⟩
  have HA := Lib.hid (show ArgsAt w1 ga vs from GathersR.args (cap := ca) (by rw [← HN.out]; exact hgr))
  have hb01 : Below w.heap.size w w1 := ((Below.refl _ _).alloc (Nat.le_refl _) _).trans (hb1.mono (by simp))
  have ho0 := Lib.hid (owns_below (owns_empty28 w) hb1)
  have HX : Hid (∃ fr, w1.heap[w.heap.size]? = some (.cells #[] 28 fr)) := Lib.hid ⟨_, (hb1.block w.heap.size (by simp)).trans (last_block _ _ _ rfl)⟩
  have HGA : Hid (ga ≠ w.heap.size) := Lib.hid (by
    intro e
    have h1 : (w.alloc (.cells #[] 28)).heap.size ≤ ga := owns_row hgr.2.1 ga rfl
    have h2 : w.heap.size < (w.alloc (.cells #[] 28)).heap.size := by simp
    rw [e] at h1
    exact absurd h2 (Nat.not_lt.2 h1))
  clear hgr hb1
  go_wp2
  go_loopw [3, 10] (fun l i wr => ∃ (k g c : Nat), i = .int .i64 k ∧ l = .slice (some ⟨g, 0, none⟩) k c ∧ k ≤ n ∧ k ≤ c ∧ Hid (wr.ownsRow w.heap.size 28 3 (.slice (some ⟨g, 0, none⟩) k c) k ((vs.take k).flatMap tellC)) ∧ Hid (Besides w.heap.size w1 wr) ∧ Hid (g = w.heap.size ∨ w1.heap.size ≤ g) ∧ Below w.heap.size w wr)
    (fun _ i _ => n - (RowKit.intOf i).toNat)
  case atStart => exact ⟨0, w.heap.size, 0, rfl, rfl, Nat.zero_le _, Nat.zero_le _, ho0, Lib.hid (Besides.refl _ _), Lib.hid (.inl rfl), hb01⟩
  case round =>
    obtain ⟨k, g, c, rfl, rfl, hk, hkc, hown, hb1r, hgx, hbl⟩ := hrel
    clear ho0 hb01
    have hsz := hbl.size
    by_cases hkn : k < n
    · obtain ⟨v, hv⟩ : ∃ v, vs[k]? = some v := ⟨vs[k]'(by rw [← HN.out]; exact hkn), List.getElem?_eq_getElem _⟩
      obtain ⟨r, hh, hc0, hc1, hc2, hc3⟩ := (HA.out.besides hb1r.out HGA.out HX.out).2 k v hv
      obtain ⟨ku, nu, su, eu⟩ := tell_form v
      have HTO := Lib.hid fun w => told_any v w
      have HT := Lib.hid (show (vs.take (k + 1)).flatMap tellC = (vs.take k).flatMap tellC ++ [.int .i64 ku, .int .i64 nu, .string su] by
        rw [List.take_add_one, hv, List.flatMap_append]
        simp [tellC_of eu])
      rw [eu] at HTO
      have HH := Lib.hid hh
      clear hv hh eu
      go_wp2_with (first | (go_at_call 79; fail))
      go_at_call 79
      refine (argValue_one v r _ (HH.out.below (B := wr.heap.size) (by go_grown) HH.out.1)).mono ?_
      rintro e w2 ⟨rfl, hb2⟩
      have hr2 : Below wr.heap.size wr w2 := ((Below.refl _ _).alloc (Nat.le_refl _) _).trans (hb2.mono (by simp))
      clear hb2 hc0 hc1 hc2 hc3
      go_wp2_with (first | (go_at_call 12; fail))
      go_at_call 12
      refine (HTO.out _).mono ?_
      rintro e w3 ⟨rfl, hb3⟩
      have hr3 : Below wr.heap.size wr w3 := hr2.trans (hb3.mono hr2.size)
      have HB := Lib.hid (hbl.trans (hr3.mono hsz))
      have HB1 := Lib.hid (hb1r.out.more hr3)
      have hAo := Lib.hid (owns_below hown.out hr3)
      have hs2 : Hid (w.heap.size ≤ w3.heap.size) := Lib.hid HB.out.size
      have hs3 : Hid (w1.heap.size ≤ w3.heap.size) := Lib.hid HB1.out.1
      clear hr2 hb3 hr3 hbl hown hb1r HH HTO
      go_wp2_with (first | (at_builtin; refine wpList_append_lies _ rfl _ _ 36 rfl w.heap.size 28 i0 _ 3 32 Tryz.underlying36 hi hz0 hz1 hz2 rfl (by decide) _ k _ rfl (hAo.out.alloc _) ⟨w3.heap.size, 0, none⟩ 1 1 [.int .i64 ku, .int .i64 nu, .string su] rfl rfl (news_block _ _ _) (by intro u hu; simp at hu; rcases hu with rfl | rfl | rfl <;> rfl) (by decide) (by unfold maxLen; omega) (by omega) (by have := hs2.out; simp; omega) _ rfl ?_))
      intro g1 cap1 w4 hown4 hgrow4 hat4 hlt4
      have HO4 := Lib.hid (show w4.ownsRow w.heap.size 28 3 (.slice (some ⟨g1, 0, none⟩) (k + 1) cap1) (k + 1) ((vs.take (k + 1)).flatMap tellC) by rw [HT.out]; exact hown4)
      have hb04 := Lib.hid ((HB.out.alloc hs2.out _).grown hgrow4 (by have := hs2.out; simp; omega) (owns_row hAo.out))
      have HCC := Lib.hid (own_cap hown4)
      have hb14 : Hid (Besides w.heap.size w1 w4) := Lib.hid ((HB1.out.more ((Below.refl _ _).alloc (Nat.le_refl _) _)).grow hgrow4 hgx.out)
      have hgx4 : Hid (g1 = w.heap.size ∨ w1.heap.size ≤ g1) := Lib.hid (by
        rcases hat4 with e | e
        · have e' : g1 = g := by simpa [Value.ownBlock] using e.symm
          rw [e']; exact hgx.out
        · have h9 := hs3.out
          first
            | (right; omega)
            | (right; rw [e]; exact Nat.le_trans h9 (by simp))
            | (simp at e; right; omega))
      clear hown4 hgrow4 hat4 hlt4 HB HB1 hAo HT
      go_wp2
      go_roundw
      case rel => exact ⟨k + 1, g1, cap1, rfl, rfl, by omega, HCC.out, HO4, hb14, hgx4, hb04.out⟩
      case measure => simp [RowKit.intOf]; omega
    · have hkk : k = n := by omega
      subst hkk
      have ht : vs.take k = vs := List.take_of_length_le (by rw [← HN.out]; exact Nat.le_refl _)
      have ho := hown.out
      rw [ht] at ho
      have HTA := Lib.hid (tellsAt_of HN.out ho)
      clear ho hown HA hb1r HX HGA hgx
      go_wp2
      go_ret
      exact ⟨g, c, rfl, HTA.out, hbl⟩
end Go.Proofs.YtkobkeopajohiaaGreatDoor
