/-
  CONTRACT of value.Great: with great letters, byte by byte.
  CONTRACT of value.Compare.
  CONTRACTS for the helper awake of layer 15: Input at a number, a sum, Typed at a text that is a number, Show at a failure.
  CONTRACT of the helper awake of layer 15: it answers true.
  CONTRACTS for the law ValueFails: AsText, AsBool, Hold, Arith and Join at failures.
  THE PLAIN LAW of signs: how many bytes a sign has, by its bytes, against the model's own decoder.
  THE PLAIN LAW of signs: at a place of a text.
-/
import Derived.Test.YtkobkeopajohiaaGreatDoorRR
import Derived.Lib.Case
import Derived.Test.YtkobkeopajohiaaGreatDoorVA
import Derived.Deep.RegionHeld3
import Derived.Test.YtkobkeopajohiaaGreatDoorQQ
import Derived.Test.YtkobkeopajohiaaGreatDoorCC
import Derived.Lib.DecodeN
namespace Go.Proofs.YtkobkeopajohiaaGreatDoor
open Go.RowKit Go.Lib

theorem upper_lo (c : UInt8) (h : ¬ (97 ≤ (c.toNat : Int) ∧ (c.toNat : Int) ≤ 122)) : upperB c = c :=
  upperB_of_not c (by rw [isLowerB_int]; simp only [Bool.and_eq_false_iff, decide_eq_false_iff_not]; omega)
theorem upper_hi (c : UInt8) (h : 97 ≤ (c.toNat : Int) ∧ (c.toNat : Int) ≤ 122) : upperB c = c - 32 ∧ ((c - 32).toNat : Int) = c.toNat - 32 := by
  have hl : isLowerB c = true := by rw [isLowerB_int]; simp [h.1, h.2]
  refine ⟨by unfold upperB; rw [hl]; rfl, ?_⟩
  have : (32 : UInt8) ≤ c := by rw [UInt8.le_iff_toNat_le]; show 32 ≤ c.toNat; omega
  rw [UInt8.toNat_sub_of_le _ _ this]; show ((c.toNat - 32 : Nat) : Int) = _; omega
def great (s : ByteArray) : ByteArray := ⟨(s.data.toList.map upperB).toArray⟩
set_option maxHeartbeats 1600000 in
set_option maxRecDepth 100000 in
theorem great_any (s : ByteArray) (w : World) (hs : s.size ≤ 4294967296) :
    Calls Tryz.prog 88 #[.string s] w fun e w' => e = .returned (.string (great s)) ∧ Below w.heap.size w w' := by
  have hcv := conv_bytes
  have h1 : (s.size : Int) ≤ 4294967296 := by omega
  have hba := Lib.hid (bytesAt_conv w s)
  have hbel : Below w.heap.size w (bytesWorld w 5 s) := ⟨rfl, rfl, rfl, by rw [bytesWorld_size]; exact Nat.le_succ _, fun i hi => bytesWorld_at_old _ _ _ i hi⟩
  unfold great
  generalize hL : s.data.toList = L at *
  have hlen : Hid (L.length = s.size) := by rw [← hL, ← size_eq]; rfl
  clear hL
  generalize hR : L.map upperB = R
  have HR := Lib.hid hR
  clear hR
  go_enter Tryz.func88, Tryz.ntmps88
  go_wp2
  clear hcv
  generalize bytesWorld w 5 s = W1 at *
  go_loopw [10] (fun vi wr => ∃ (j : Nat) (M : List UInt8), vi = .int .i64 j ∧ j ≤ s.size ∧ Hid (M.length = s.size) ∧ BytesAt wr w.heap.size M ∧ Below w.heap.size w wr ∧ Hid (M = (L.take j).map upperB ++ L.drop j))
    (fun vi _ => s.size - (RowKit.intOf vi).toNat)
  case atStart =>
    exact ⟨0, L, rfl, Nat.zero_le _, hlen, hba.out, hbel, Lib.hid (by simp)⟩
  case round =>
    obtain ⟨j, M, rfl, hj, hml, hbt, hbw, hinv⟩ := hrel
    clear hba hbel
    by_cases hjs : j < s.size
    · have hjL : j < L.length := by rw [hlen.out]; exact hjs
      have hd : L.drop j = L.getD j 0 :: L.drop (j + 1) := by
        rw [List.drop_eq_getElem_cons hjL, List.getD_eq_getElem?_getD, List.getElem?_eq_getElem hjL]; rfl
      have ht : L.take (j + 1) = L.take j ++ [L.getD j 0] := by
        rw [List.take_succ_eq_append_getElem hjL, List.getD_eq_getElem?_getD, List.getElem?_eq_getElem hjL]; rfl
      have hMj : M.getD j 0 = L.getD j 0 := by
        rw [hinv.out, List.getD_eq_getElem?_getD, List.getElem?_append_right (by rw [List.length_map, List.length_take]; omega), hd]
        rw [List.length_map, List.length_take, Nat.min_eq_left (by omega), Nat.sub_self]; rfl
      obtain ⟨hcell, hz⟩ := hbt j (by rw [hml.out]; omega)
      rw [hMj] at hcell
      have hset : ∀ x : UInt8, M.set j x = (L.take j).map upperB ++ x :: L.drop (j + 1) := by
        intro x
        rw [hinv.out, hd, List.set_append_right _ _ (by rw [List.length_map, List.length_take]; omega), List.length_map, List.length_take, Nat.min_eq_left (by omega), Nat.sub_self]
        rfl
      generalize L.getD j 0 = c at *
      have hc8 := c.toNat_lt
      have hc9 : (c.toNat : Int) < 256 := by omega
      have hbs := fun x => hbt.set j (by rw [hml.out]; omega) x
      by_cases hlow : 97 ≤ (c.toNat : Int) ∧ (c.toNat : Int) ≤ 122
      · obtain ⟨e1, e2⟩ := upper_hi c hlow
        have hb1 := hbs (c - 32)
        rw [e2] at hb1
        have HM : Hid (M.set j (c - 32) = (L.take (j + 1)).map upperB ++ L.drop (j + 1)) := Lib.hid (by rw [hset, ht, List.map_append, List.map_cons, e1, List.append_assoc]; rfl)
        have hbw2 : Below w.heap.size w (wr.setCell ⟨w.heap.size, j, none⟩ (.int .u8 ((c.toNat : Int) - 32))) := hbw.setCell (Nat.le_refl _) _
        have hl2 : Hid ((M.set j (c - 32)).length = s.size) := by rw [List.length_set]; exact hml.out
        clear hbt hMj hset hbs ht e1 e2 hc8 hd
        obtain ⟨hl7, hl8⟩ := hlow
        go_wp2
        go_roundw
        case rel => exact ⟨j + 1, _, rfl, by omega, hl2, hb1, hbw2, HM⟩
        case measure => simp [RowKit.intOf]; omega
      · have HM : Hid (M = (L.take (j + 1)).map upperB ++ L.drop (j + 1)) := Lib.hid (by rw [hinv.out, hd, ht, List.map_append, List.map_cons, upper_lo c hlow, List.append_assoc]; rfl)
        clear hMj hset hbs ht hc8 hd
        by_cases hl7 : 97 ≤ (c.toNat : Int)
        · have hl8 : ¬ (c.toNat : Int) ≤ 122 := fun h => hlow ⟨hl7, h⟩
          clear hlow
          go_wp2
          go_roundw
          case rel => exact ⟨j + 1, _, rfl, by omega, hml, hbt, hbw, HM⟩
          case measure => simp [RowKit.intOf]; omega
        · clear hlow
          go_wp2
          go_roundw
          case rel => exact ⟨j + 1, _, rfl, by omega, hml, hbt, hbw, HM⟩
          case measure => simp [RowKit.intOf]; omega
    · obtain rfl : j = s.size := by omega
      have hfin : M = R := by
        rw [hinv.out, ← HR.out, ← hlen.out, List.take_length, List.drop_length, List.append_nil]
      have hback := fun cap => hbt.back s.size cap hml.out
      rw [hfin] at hback
      clear hfin hbt hinv
      go_wp2
      go_ret
      exact ⟨rfl, hbw⟩
end Go.Proofs.YtkobkeopajohiaaGreatDoor
namespace Go.Proofs.YtkobkeopajohiaaGreatDoor
open Go.RowKit Go.Lib

/-- two values held against one another, each as the other one wants it -/
def cmpOf (x y : V) : Int :=
  if x.rank = y.rank then
    match x, y with
    | .text s, .text t => Lib.compareBytes (great s).data.toList (great t).data.toList
    | .bool p, .bool q => if p = q then 0 else if q then -1 else 1
    | x, y => if x.given.1 < y.given.1 then -1 else if y.given.1 < x.given.1 then 1 else 0
  else if x.rank < y.rank then -1 else 1
def V.cmp (a b : V) : Int := cmpOf (a.as b) (b.as a)
theorem rank_le (v : V) : 0 ≤ v.rank ∧ v.rank ≤ 2 := by cases v <;> simp [V.rank]

set_option maxHeartbeats 1600000 in
set_option maxRecDepth 100000 in
theorem cmp_ranks (a b x y : V) (w : World) (hx : a.as b = x) (hy : b.as a = y) (hr : x.rank < y.rank ∨ y.rank < x.rank) (r : Int) (hR : (if x.rank < y.rank then (-1 : Int) else 1) = r) :
    Calls Tryz.prog 21 #[a.val, b.val] w fun e w' => e = .returned (.int .i64 r) ∧ Below w.heap.size w w' := by
  have HA := Lib.hid fun w => hx ▸ as_any a b w
  have HB := Lib.hid fun w => hy ▸ as_any b a w
  have HX := Lib.hid fun w => rank_any x w
  have HY := Lib.hid fun w => rank_any y w
  obtain ⟨x0, x2⟩ := rank_le x
  obtain ⟨y0, y2⟩ := rank_le y
  clear hx hy
  generalize a.val = av at *
  generalize b.val = bv at *
  generalize x.val = xv at *
  generalize y.val = yv at *
  generalize x.rank = p at *
  generalize y.rank = q at *
  have hd : ¬ p - q = 0 := by omega
  have hd2 : (p - q == 0) = false := by rw [beq_eq_false_iff_ne]; exact hd
  have HR : Hid (max (min (p - q) 1) (-1) = r) := Lib.hid (by rw [← hR]; rcases hr with h | h
                                                              · rw [if_pos h]; omega
                                                              · rw [if_neg (by omega)]; omega)
  clear hR hr
  go_enter Tryz.func21, Tryz.ntmps21
  go_wp2_with (first | (go_at_call 85; fail))
  go_at_call 85
  refine (HA.out _).mono ?_
  rintro e w1 ⟨rfl, hb1⟩
  go_wp2_with (first | (go_at_call 85; fail))
  go_at_call 85
  refine (HB.out _).mono ?_
  rintro e w2 ⟨rfl, hb2⟩
  have hb02 := hb1.trans (hb2.mono hb1.size)
  clear hb1 hb2
  go_wp2_with (first | (go_at_call 86; fail))
  go_at_call 86
  refine (HX.out _).mono ?_
  rintro e w' ⟨rfl, rfl⟩
  go_wp2_with (first | (go_at_call 86; fail))
  go_at_call 86
  refine (HY.out _).mono ?_
  rintro e w' ⟨rfl, rfl⟩
  go_wp2
  go_ret
  exact ⟨by rw [← HR.out]; rfl, hb02⟩

theorem less_num (m n r : Int) (hR : (if m < n then (-1 : Int) else if n < m then 1 else 0) = r) : (m < n ∧ r = -1) ∨ (n < m ∧ r = 1) ∨ (m = n ∧ r = 0) := by
  by_cases h : m < n
  · rw [if_pos h] at hR; exact .inl ⟨h, hR.symm⟩
  · rw [if_neg h] at hR
    by_cases h2 : n < m
    · rw [if_pos h2] at hR; exact .inr (.inl ⟨h2, hR.symm⟩)
    · rw [if_neg h2] at hR; exact .inr (.inr ⟨by omega, hR.symm⟩)
set_option maxHeartbeats 1600000 in
set_option maxRecDepth 100000 in
theorem cmp_given (a b x y : V) (w : World) (hx : a.as b = x) (hy : b.as a = y) (hx0 : x.rank = 0) (hxb : x.isBlank = false) (hy0 : y.rank = 0) (r : Int) (hR : (if x.given.1 < y.given.1 then (-1 : Int) else if y.given.1 < x.given.1 then 1 else 0) = r) :
    Calls Tryz.prog 21 #[a.val, b.val] w fun e w' => e = .returned (.int .i64 r) ∧ Below w.heap.size w w' := by
  have HA := Lib.hid fun w => hx ▸ as_any a b w
  have HB := Lib.hid fun w => hy ▸ as_any b a w
  have HX := Lib.hid fun w => hx0 ▸ rank_any x w
  have HY := Lib.hid fun w => hy0 ▸ rank_any y w
  have HGx := Lib.hid fun w => given_any x w
  have HGy := Lib.hid fun w => given_any y w
  clear hx hy hy0
  generalize a.val = av at *
  generalize b.val = bv at *
  generalize y.val = yv at *
  generalize y.given.2 = ok2 at *
  generalize y.given.1 = n at *
  generalize hm : x.given.1 = m at *
  generalize hk : x.given.2 = ok1 at *
  have hx5 : (∃ k, x = .num k) ∨ (∃ k, x = .fail k) := by
    cases x
    · exact .inl ⟨_, rfl⟩
    · simp [V.rank] at hx0
    · simp [V.rank] at hx0
    · exact .inr ⟨_, rfl⟩
    · simp [V.isBlank] at hxb
  clear hx0 hxb hm hk
  rcases less_num m n r hR with ⟨h, rfl⟩ | ⟨h, rfl⟩ | ⟨rfl, rfl⟩
  all_goals
    clear hR
    rcases hx5 with ⟨k, rfl⟩ | ⟨k, rfl⟩
    all_goals
      simp only [V.val] at HA HX HGx
      go_enter Tryz.func21, Tryz.ntmps21
      go_wp2_with (first | (go_at_call 85; fail))
      go_at_call 85
      refine (HA.out _).mono ?_
      rintro e w1 ⟨rfl, hb1⟩
      go_wp2_with (first | (go_at_call 85; fail))
      go_at_call 85
      refine (HB.out _).mono ?_
      rintro e w2 ⟨rfl, hb2⟩
      have hb02 := hb1.trans (hb2.mono hb1.size)
      clear hb1 hb2
      go_wp2_with (first | (go_at_call 86; fail))
      go_at_call 86
      refine (HX.out _).mono ?_
      rintro e w' ⟨rfl, rfl⟩
      go_wp2_with (first | (go_at_call 86; fail))
      go_at_call 86
      refine (HY.out _).mono ?_
      rintro e w' ⟨rfl, rfl⟩
      go_wp2_with (first | (go_at_call 89; fail))
      go_at_call 89
      refine (HGx.out _).mono ?_
      rintro e w' ⟨rfl, rfl⟩
      go_wp2_with (first | (go_at_call 89; fail))
      go_at_call 89
      refine (HGy.out _).mono ?_
      rintro e w' ⟨rfl, rfl⟩
      go_wp2
      go_ret
      exact ⟨rfl, hb02⟩
set_option maxHeartbeats 1600000 in
set_option maxRecDepth 100000 in
theorem cmp_bools (a b : V) (p q : Bool) (w : World) (hx : a.as b = .bool p) (hy : b.as a = .bool q) (r : Int) (hR : (if p = q then (0 : Int) else if q then -1 else 1) = r) :
    Calls Tryz.prog 21 #[a.val, b.val] w fun e w' => e = .returned (.int .i64 r) ∧ Below w.heap.size w w' := by
  have HA := Lib.hid fun w => hx ▸ as_any a b w
  have HB := Lib.hid fun w => hy ▸ as_any b a w
  have HX := Lib.hid fun w => rank_any (.bool p) w
  have HY := Lib.hid fun w => rank_any (.bool q) w
  clear hx hy
  generalize a.val = av at *
  generalize b.val = bv at *
  simp only [V.val, V.rank] at HA HB HX HY
  cases p <;> cases q <;> simp at hR <;> subst hR
  all_goals
    go_enter Tryz.func21, Tryz.ntmps21
    go_wp2_with (first | (go_at_call 85; fail))
    go_at_call 85
    refine (HA.out _).mono ?_
    rintro e w1 ⟨rfl, hb1⟩
    go_wp2_with (first | (go_at_call 85; fail))
    go_at_call 85
    refine (HB.out _).mono ?_
    rintro e w2 ⟨rfl, hb2⟩
    have hb02 := hb1.trans (hb2.mono hb1.size)
    clear hb1 hb2
    go_wp2_with (first | (go_at_call 86; fail))
    go_at_call 86
    refine (HX.out _).mono ?_
    rintro e w' ⟨rfl, rfl⟩
    go_wp2_with (first | (go_at_call 86; fail))
    go_at_call 86
    refine (HY.out _).mono ?_
    rintro e w' ⟨rfl, rfl⟩
    go_wp2
    go_ret
    exact ⟨rfl, hb02⟩
set_option maxHeartbeats 1600000 in
set_option maxRecDepth 100000 in
theorem cmp_texts (a b : V) (s t : ByteArray) (w : World) (hs : s.size ≤ 4294967296) (ht : t.size ≤ 4294967296) (hx : a.as b = .text s) (hy : b.as a = .text t) (r : Int) (hR : Lib.compareBytes (great s).data.toList (great t).data.toList = r) :
    Calls Tryz.prog 21 #[a.val, b.val] w fun e w' => e = .returned (.int .i64 r) ∧ Below w.heap.size w w' := by
  have HA := Lib.hid fun w => hx ▸ as_any a b w
  have HB := Lib.hid fun w => hy ▸ as_any b a w
  have HX := Lib.hid fun w => rank_any (.text s) w
  have HY := Lib.hid fun w => rank_any (.text t) w
  have HGs := Lib.hid fun w => great_any s w hs
  have HGt := Lib.hid fun w => great_any t w ht
  have HC := Lib.hid fun w => hR ▸ Tryz.strings_Compare (great s) (great t) w
  clear hx hy hR hs ht
  generalize a.val = av at *
  generalize b.val = bv at *
  simp only [V.val, V.rank] at HA HB HX HY
  generalize great s = s' at *
  generalize great t = t' at *
  go_enter Tryz.func21, Tryz.ntmps21
  go_wp2_with (first | (go_at_call 85; fail))
  go_at_call 85
  refine (HA.out _).mono ?_
  rintro e w1 ⟨rfl, hb1⟩
  go_wp2_with (first | (go_at_call 85; fail))
  go_at_call 85
  refine (HB.out _).mono ?_
  rintro e w2 ⟨rfl, hb2⟩
  have hb02 := hb1.trans (hb2.mono hb1.size)
  clear hb1 hb2
  go_wp2_with (first | (go_at_call 86; fail))
  go_at_call 86
  refine (HX.out _).mono ?_
  rintro e w' ⟨rfl, rfl⟩
  go_wp2_with (first | (go_at_call 86; fail))
  go_at_call 86
  refine (HY.out _).mono ?_
  rintro e w' ⟨rfl, rfl⟩
  go_wp2
  go_region_held3 (fun w' => Hid (Below w.heap.size w w')) (first | exact Lib.hid (‹Hid (Below w.heap.size w _)›.out.drew) | exact Lib.hid (‹Hid (Below w.heap.size w _)›.out.trans (‹Below _ _ _›.mono ‹Hid (Below w.heap.size w _)›.out.size)) | exact Lib.hid (‹Below _ _ _›.drew) | assumption)
    (first
      | (go_at_call_of 88 (Value.string s); refine (HGs.out _).mono ?_; rintro e w2 ⟨rfl, hb⟩)
      | (go_at_call_of 88 (Value.string t); refine (HGt.out _).mono ?_; rintro e w2 ⟨rfl, hb⟩)
      | (go_at_call 87; refine (HC.out _).mono ?_; rintro e w2 ⟨rfl, rfl⟩))
  all_goals go_wp2
  all_goals go_ret
  all_goals exact ⟨rfl, (‹Hid (Below w.heap.size w w2)›).out⟩
theorem as_short (a b : V) (n : Nat) (h : a.short n) : (a.as b).short n := by
  cases a <;> cases b <;> first | exact h | exact trivial | exact Nat.zero_le _
theorem as_blank (a b : V) : (a.as b).isBlank = false := by
  cases a <;> cases b <;> rfl
theorem cmp_any (a b : V) (w : World) (ha : a.short 4294967296) (hb : b.short 4294967296) :
    Calls Tryz.prog 21 #[a.val, b.val] w fun e w' => e = .returned (.int .i64 (a.cmp b)) ∧ Below w.heap.size w w' := by
  have hsx := as_short a b _ ha
  have hsy := as_short b a _ hb
  have hbx := as_blank a b
  have hby := as_blank b a
  unfold V.cmp
  obtain ⟨x, hx⟩ : ∃ x, a.as b = x := ⟨_, rfl⟩
  obtain ⟨y, hy⟩ : ∃ y, b.as a = y := ⟨_, rfl⟩
  rw [hx] at hsx hbx ⊢
  rw [hy] at hsy hby ⊢
  unfold cmpOf
  by_cases hr : x.rank = y.rank
  · rw [if_pos hr]
    cases x <;> cases y <;> first
      | (exfalso; simp [V.rank] at hr; done)
      | (exfalso; simp [V.isBlank] at hbx; done)
      | (exfalso; simp [V.isBlank] at hby; done)
      | (exact cmp_texts a b _ _ w hsx hsy hx hy _ rfl)
      | (exact cmp_bools a b _ _ w hx hy _ rfl)
      | (exact cmp_given a b _ _ w hx hy rfl rfl rfl _ rfl)
  · rw [if_neg hr]
    exact cmp_ranks a b x y w hx hy (by omega) _ rfl
end Go.Proofs.YtkobkeopajohiaaGreatDoor
namespace Go.Proofs.YtkobkeopajohiaaGreatDoor
open Go.RowKit Go.Lib

set_option maxRecDepth 100000 in
theorem input_num (s : ByteArray) (n : Int) (w : World) (hG : GM w) (hs : s.size ≤ 4294967) (hp : Lib.hasPrefix s.data.toList [39] = false) (hpr : Tab.parse (Lib.trimB s.data.toList 32) = (n, true)) :
    Calls Tryz.prog 34 #[.string s] w fun e w' => e = .returned (V.num n).val ∧ Below w.heap.size w w' := by
  have HC := Lib.hid fun w => Tryz.strings_CutPrefix s ⟨#[39]⟩ w
  rw [show (Lib.hasPrefix s.data.toList (ByteArray.mk #[39]).data.toList) = false from hp] at HC
  have hz : (⟨(Lib.trimB s.data.toList 32).toArray⟩ : ByteArray).size < 4294967281 := by
    have := trimB_le s.data.toList 32
    rw [size_eq]
    show (Lib.trimB s.data.toList 32).length < _
    rw [← size_eq] at this
    omega
  have HT := Lib.hid fun w => trim_any s w (by omega)
  have HP := Lib.hid fun w hM => parse_is ⟨(Lib.trimB s.data.toList 32).toArray⟩ n true w hM hz hpr
  generalize (Lib.trimB s.data.toList 32).toArray = t at *
  generalize (Lib.trimPrefix s.data.toList (ByteArray.mk #[39]).data.toList).toArray = q at *
  clear hz hpr hp
  go_enter Tryz.func34, Tryz.ntmps34
  go_wp2_with (first | (go_at_call 110; refine (HC.out _).mono ?_; rintro e w' ⟨rfl, rfl⟩) | (go_at_call 101; fail))
  go_at_call 101
  refine (HT.out _).mono ?_
  rintro e w1 ⟨rfl, hb1⟩
  have hM1 := hG.below hb1
  go_wp2_with (first | (go_at_call 100; fail))
  go_at_call 100
  refine (HP.out _ hM1).mono ?_
  rintro e w2 ⟨rfl, hb2⟩
  have hb12 := hb1.trans (hb2.mono hb1.size)
  go_wp2
  go_ret
  exact ⟨rfl, hb12⟩
set_option maxRecDepth 100000 in
theorem arith_add (a b : V) (x y n : Int) (w : World) (hG : GM w) (ha : a.short 4294967) (hb : b.short 4294967) (hx : a.asNum = (x, 0)) (hy : b.asNum = (y, 0)) (h : -2000000000000000000 ≤ x + y ∧ x + y ≤ 2000000000000000000) (hf : Tab.fit (x + y) = (n, true)) :
    Calls Tryz.prog 25 #[.int .i64 0, a.val, b.val] w fun e w' => e = .returned (V.num n).val ∧ Below w.heap.size w w' := by
  have HA := Lib.hid fun w hM => asNumber_is a x 0 w hM ha hx
  have HB := Lib.hid fun w hM => asNumber_is b y 0 w hM hb hy
  have HAdd := Lib.hid fun w => add_is x y n true w h hf
  have HC := Lib.hid fun w => counted_yes n w
  clear ha hb hx hy h hf
  rw [V.val_eq] at HA HB
  rw [V.val_eq, V.val_eq]
  generalize a.ty = ta at *
  generalize a.raw = xa at *
  generalize b.ty = tb at *
  generalize b.raw = xb at *
  go_enter Tryz.func25, Tryz.ntmps25
  go_wp2_with (first | (go_at_call 27; fail))
  go_at_call 27
  refine (HA.out _ hG).mono ?_
  rintro e w1 ⟨rfl, hb1⟩
  have hM1 := hG.below hb1
  go_wp2_with (first | (go_at_call 27; fail))
  go_at_call 27
  refine (HB.out _ hM1).mono ?_
  rintro e w2 ⟨rfl, hb2⟩
  have hb12 := hb1.trans (hb2.mono hb1.size)
  clear hb1 hb2 hM1
  go_wp2_with (first
    | (go_at_call 93; refine (HAdd.out _).mono ?_; rintro e w' ⟨rfl, rfl⟩)
    | (go_at_call 43; refine (HC.out _).mono ?_; rintro e w' ⟨rfl, rfl⟩))
  go_ret
  exact ⟨rfl, hb12⟩
set_option maxRecDepth 100000 in
theorem typed_num (s : ByteArray) (n : Int) (w : World) (hin : Calls Tryz.prog 34 #[.string s] w fun e w' => e = .returned (V.num n).val ∧ Below w.heap.size w w') (hs : s.size ≤ 4294967) :
    Calls Tryz.prog 35 #[(V.text s).val] w fun e w' => e = .returned (.string (⟨#[39]⟩ ++ s)) ∧ Below w.heap.size w w' := by
  have HI := Lib.hid hin
  clear hin
  simp only [V.val] at HI ⊢
  go_enter Tryz.func35, Tryz.ntmps35
  go_wp2_with (first | (go_at_call 34; fail))
  go_at_call 34
  refine HI.out.mono ?_
  rintro e w1 ⟨rfl, hb1⟩
  go_wp2
  go_ret
  exact ⟨rfl, hb1⟩
/-- the seven texts of failures -/
def errTexts : List ByteArray := [⟨#[35, 68, 73, 86, 47, 48, 33]⟩, ⟨#[35, 78, 85, 77, 33]⟩, ⟨#[35, 86, 65, 76, 85, 69, 33]⟩, ⟨#[35, 82, 69, 70, 33]⟩, ⟨#[35, 78, 47, 65]⟩, ⟨#[35, 78, 65, 77, 69, 63]⟩, ⟨#[35, 67, 89, 67, 76, 69, 33]⟩]
set_option maxRecDepth 100000 in
theorem errors_cells (w : World) :
    Calls Tryz.prog 111 #[] w fun e w' => ∃ g, e = .returned (.slice (some ⟨g, 0, none⟩) 7 7) ∧ (∀ i s, errTexts[i]? = some s → w'.cell? ⟨g, i, none⟩ = some (.string s)) ∧ g < w'.heap.size ∧ Below w.heap.size w w' := by
  go_enter Tryz.func111, Tryz.ntmps111
  go_wp2
  go_ret
  refine ⟨_, rfl, fun i s h => ?_, by simp, by go_grown⟩
  rw [World.cell?_alloc_at _ _ _ _ rfl]
  match i, h with
  | 0, h => simp [errTexts] at h; subst h; rfl
  | 1, h => simp [errTexts] at h; subst h; rfl
  | 2, h => simp [errTexts] at h; subst h; rfl
  | 3, h => simp [errTexts] at h; subst h; rfl
  | 4, h => simp [errTexts] at h; subst h; rfl
  | 5, h => simp [errTexts] at h; subst h; rfl
  | 6, h => simp [errTexts] at h; subst h; rfl
set_option maxRecDepth 100000 in
theorem show_div (w : World) :
    Calls Tryz.prog 81 #[(V.fail 1).val] w fun e w' => e = .returned (.string ⟨#[35, 68, 73, 86, 47, 48, 33]⟩) ∧ Below w.heap.size w w' := by
  have HF := Lib.hid fun w => failed_any (.fail 1) w
  simp only [V.val, V.failed] at HF ⊢
  go_enter Tryz.func81, Tryz.ntmps81
  go_wp2_with (first | (go_at_call 91; refine (HF.out _).mono ?_; rintro e w' ⟨rfl, rfl⟩) | (go_at_call 111; fail))
  go_at_call 111
  refine (errors_cells _).mono ?_
  rintro e w1 ⟨g, rfl, hc, hg, hb⟩
  have hc0 := hc 0 _ rfl
  clear hc
  go_wp2
  go_ret
  exact ⟨rfl, hb⟩
end Go.Proofs.YtkobkeopajohiaaGreatDoor
namespace Go.Proofs.YtkobkeopajohiaaGreatDoor
open Go.RowKit Go.Lib

theorem in_two : Tab.parse (Lib.trimB (ByteArray.mk #[50]).data.toList 32) = (20000, true) := by decide +kernel
theorem in_one : Tab.parse (Lib.trimB (ByteArray.mk #[49]).data.toList 32) = (10000, true) := by decide +kernel
theorem cmp_bA : (V.text ⟨#[98]⟩).cmp (.text ⟨#[65]⟩) = 1 := by decide +kernel
set_option maxRecDepth 1000000 in
theorem signs_b (w : World) :
    Calls Tryz.prog 125 #[.string ⟨#[98]⟩] w fun e w' => e = .returned (.tuple #[.int .i64 1, .bool true]) ∧ Below w.heap.size w w' := by
  have hx : ∀ ty, (Instr.next (.pointer (some ⟨w.heap.size, 0, none⟩)) true ty).run Tryz.prog (w.iter ⟨#[98]⟩ 0) = .ok (.tuple #[.bool true, .int .i64 0, .int .i32 98]) (w.iter ⟨#[98]⟩ 1) := fun ty => run_next_ascii w ⟨#[98]⟩ 0 ty (by decide) (by decide)
  have hy : ∀ ty, (Instr.next (.pointer (some ⟨w.heap.size, 0, none⟩)) true ty).run Tryz.prog (w.iter ⟨#[98]⟩ 1) = .ok (.tuple #[.bool false]) (w.iter ⟨#[98]⟩ 1) := fun ty => run_next_end w ⟨#[98]⟩ 1 ty (by decide)
  go_enter Tryz.func125, Tryz.ntmps125
  go_wp2
  refine wp_loop_rounds 3 ?_
  rw [rounds_succ]
  go_wp2
  rw [rounds_succ]
  go_wp2
  go_ret2
  exact ⟨rfl, (Below.refl _ _).alloc (Nat.le_refl _) _⟩
set_option maxRecDepth 1000000 in
theorem signs_A (w : World) :
    Calls Tryz.prog 125 #[.string ⟨#[65]⟩] w fun e w' => e = .returned (.tuple #[.int .i64 1, .bool true]) ∧ Below w.heap.size w w' := by
  have hx : ∀ ty, (Instr.next (.pointer (some ⟨w.heap.size, 0, none⟩)) true ty).run Tryz.prog (w.iter ⟨#[65]⟩ 0) = .ok (.tuple #[.bool true, .int .i64 0, .int .i32 65]) (w.iter ⟨#[65]⟩ 1) := fun ty => run_next_ascii w ⟨#[65]⟩ 0 ty (by decide) (by decide)
  have hy : ∀ ty, (Instr.next (.pointer (some ⟨w.heap.size, 0, none⟩)) true ty).run Tryz.prog (w.iter ⟨#[65]⟩ 1) = .ok (.tuple #[.bool false]) (w.iter ⟨#[65]⟩ 1) := fun ty => run_next_end w ⟨#[65]⟩ 1 ty (by decide)
  go_enter Tryz.func125, Tryz.ntmps125
  go_wp2
  refine wp_loop_rounds 3 ?_
  rw [rounds_succ]
  go_wp2
  rw [rounds_succ]
  go_wp2
  go_ret2
  exact ⟨rfl, (Below.refl _ _).alloc (Nat.le_refl _) _⟩
set_option maxRecDepth 1000000 in
theorem signs_1 (w : World) :
    Calls Tryz.prog 125 #[.string ⟨#[49]⟩] w fun e w' => e = .returned (.tuple #[.int .i64 1, .bool true]) ∧ Below w.heap.size w w' := by
  have hx : ∀ ty, (Instr.next (.pointer (some ⟨w.heap.size, 0, none⟩)) true ty).run Tryz.prog (w.iter ⟨#[49]⟩ 0) = .ok (.tuple #[.bool true, .int .i64 0, .int .i32 49]) (w.iter ⟨#[49]⟩ 1) := fun ty => run_next_ascii w ⟨#[49]⟩ 0 ty (by decide) (by decide)
  have hy : ∀ ty, (Instr.next (.pointer (some ⟨w.heap.size, 0, none⟩)) true ty).run Tryz.prog (w.iter ⟨#[49]⟩ 1) = .ok (.tuple #[.bool false]) (w.iter ⟨#[49]⟩ 1) := fun ty => run_next_end w ⟨#[49]⟩ 1 ty (by decide)
  go_enter Tryz.func125, Tryz.ntmps125
  go_wp2
  refine wp_loop_rounds 3 ?_
  rw [rounds_succ]
  go_wp2
  rw [rounds_succ]
  go_wp2
  go_ret2
  exact ⟨rfl, (Below.refl _ _).alloc (Nat.le_refl _) _⟩

theorem app_one : (ByteArray.mk #[39]) ++ (ByteArray.mk #[49]) = ⟨#[39, 49]⟩ := by
  apply ByteArray.ext
  rw [ByteArray.data_append]
  rfl
set_option maxHeartbeats 1600000 in
set_option maxRecDepth 100000 in
theorem awake15 (w : World) (hG : GM w) : Calls Tryz.prog 18 #[] w fun e w' => e = .returned (.bool true) ∧ Below w.heap.size w w' := by
  have HM := Lib.hid hG
  have HI := Lib.hid fun w hM => input_num ⟨#[50]⟩ 20000 w hM (by decide) rfl in_two
  have HO1 := Lib.hid fun w => of_bool 1 true w ByteArray.empty rfl
  have HAr := Lib.hid fun w hM => arith_add (.num 20000) (.bool true) 20000 10000 30000 w hM trivial trivial rfl rfl (by omega) (by rfl)
  have HOb := Lib.hid fun w => of_text 1 0 ⟨#[98]⟩ w signs_b (by decide)
  have HOA := Lib.hid fun w => of_text 1 0 ⟨#[65]⟩ w signs_A (by decide)
  have HO1t := Lib.hid fun w => of_text 1 0 ⟨#[49]⟩ w signs_1 (by decide)
  have HT := Lib.hid fun w => tell_any (.num 30000) w
  have HC := Lib.hid fun w => cmp_bA ▸ cmp_any (.text ⟨#[98]⟩) (.text ⟨#[65]⟩) w (show 1 ≤ 4294967296 by decide) (show 1 ≤ 4294967296 by decide)
  have HTy := Lib.hid fun w hM => typed_num ⟨#[49]⟩ 10000 w (input_num ⟨#[49]⟩ 10000 w hM (by decide) rfl in_one) (by decide)
  have HS := Lib.hid fun w => show_div w
  simp only [app_one] at HTy
  simp only [V.val, V.tell] at HI HO1 HAr HOb HOA HO1t HT HC HTy HS
  clear hG
  go_enter Tryz.func18, Tryz.ntmps18
  go_wp2_with (first | (go_at_call 34; fail))
  go_at_call 34
  refine (HI.out _ HM.out).mono ?_
  rintro e w1 ⟨rfl, hb1⟩
  go_wp2_with (first | (go_at_call 60; fail))
  go_at_call 60
  refine (HO1.out _).mono ?_
  rintro e w2 ⟨rfl, hb⟩
  have hb2 := hb1.trans (hb.mono hb1.size)
  clear hb hb1
  have hM2 := HM.out.below hb2
  go_wp2_with (first | (go_at_call 25; fail))
  go_at_call 25
  refine (HAr.out _ hM2).mono ?_
  rintro e w3 ⟨rfl, hb⟩
  have hb3 := hb2.trans (hb.mono hb2.size)
  clear hb hb2 hM2
  go_wp2_with (first | (go_at_call 60; fail))
  go_at_call 60
  refine (HOb.out _).mono ?_
  rintro e w4 ⟨rfl, hb⟩
  have hb4 := hb3.trans (hb.mono hb3.size)
  clear hb hb3
  go_wp2_with (first | (go_at_call 60; fail))
  go_at_call 60
  refine (HOA.out _).mono ?_
  rintro e w5 ⟨rfl, hb⟩
  have hb5 := hb4.trans (hb.mono hb4.size)
  clear hb hb4
  go_wp2_with (first | (go_at_call 37; fail))
  go_at_call 37
  refine (HT.out _).mono ?_
  rintro e w6 ⟨rfl, hb⟩
  have hb6 := hb5.trans (hb.mono hb5.size)
  clear hb hb5
  go_wp2_with (first | (go_at_call 21; fail))
  go_at_call 21
  refine (HC.out _).mono ?_
  rintro e w7 ⟨rfl, hb⟩
  have hb7 := hb6.trans (hb.mono hb6.size)
  clear hb hb6
  go_wp2_with (first | (go_at_call 60; fail))
  go_at_call 60
  refine (HO1t.out _).mono ?_
  rintro e w8 ⟨rfl, hb⟩
  have hb8 := hb7.trans (hb.mono hb7.size)
  clear hb hb7
  have hM8 := HM.out.below hb8
  go_wp2_with (first | (go_at_call 35; fail))
  go_at_call 35
  refine (HTy.out _ hM8).mono ?_
  rintro e w9 ⟨rfl, hb⟩
  have hb9 := hb8.trans (hb.mono hb8.size)
  clear hb hb8 hM8
  go_wp2_with (first | (go_at_call 81; fail))
  go_at_call 81
  refine (HS.out _).mono ?_
  rintro e wa ⟨rfl, hb⟩
  have hba := hb9.trans (hb.mono hb9.size)
  clear hb hb9
  go_wp2
  go_ret
  exact ⟨rfl, hba⟩
end Go.Proofs.YtkobkeopajohiaaGreatDoor
namespace Go.Proofs.YtkobkeopajohiaaGreatDoor
open Go.RowKit Go.Lib

/-- a number within the bounds; a failure that is one of the seven -/
def V.good : V → Prop | .num n => -999999999999999999 ≤ n ∧ n ≤ 999999999999999999 | .fail n => 1 ≤ n ∧ n ≤ 7 | _ => True
theorem of_good (p : P) : p.of.good := by
  obtain ⟨k, n, s⟩ := p
  unfold P.of
  repeat' split
  all_goals first | exact trivial | assumption
/-- the first one of two failures -/
def V.first (v : V) (n : Int) : V := match v with | .fail m => .fail m | _ => .fail n
set_option maxRecDepth 100000 in
theorem asText_any (v : V) (w : World) (hP : GP w) (hg : v.good) :
    Calls Tryz.prog 28 #[v.val] w fun e w' => ∃ s, e = .returned (.tuple #[.string s, .int .i64 v.failed.1]) ∧ Below w.heap.size w w' := by
  rcases v with a | s | (_ | _) | a | _
  case num =>
    have HT := Lib.hid fun w hP => text_is a ⟨(Tab.text a).toArray⟩ w hP hg rfl
    clear hg
    generalize (⟨(Tab.text a).toArray⟩ : ByteArray) = t at *
    simp only [V.val, V.failed]
    go_enter Tryz.func28, Tryz.ntmps28
    go_wp2_with (first | (go_at_call 102; fail))
    go_at_call 102
    refine (HT.out _ hP).mono ?_
    rintro e w1 ⟨rfl, hb⟩
    go_wp2
    go_ret2
    exact ⟨_, rfl, hb⟩
  all_goals
    clear hg hP
    simp only [V.val, V.failed]
    go_enter Tryz.func28, Tryz.ntmps28
    go_wp2
    go_ret2
    exact ⟨_, rfl, by go_grown⟩
set_option maxRecDepth 100000 in
theorem asBool_fail (n : Int) (w : World) :
    Calls Tryz.prog 29 #[(V.fail n).val] w fun e w' => e = .returned (.tuple #[.bool false, .int .i64 n]) ∧ Below w.heap.size w w' := by
  simp only [V.val]
  go_enter Tryz.func29, Tryz.ntmps29
  go_wp2
  go_ret2
  exact ⟨rfl, by go_grown⟩
set_option maxRecDepth 100000 in
theorem hold_first (op n : Int) (v : V) (w : World) :
    Calls Tryz.prog 23 #[.int .i64 op, (V.fail n).val, v.val] w fun e w' => e = .returned (V.fail n).val ∧ Below w.heap.size w w' := by
  have HF := Lib.hid fun w => failed_any (.fail n) w
  simp only [V.val, V.failed] at HF
  rw [V.val_eq v]
  generalize v.ty = t
  generalize v.raw = x
  simp only [V.val]
  go_enter Tryz.func23, Tryz.ntmps23
  go_wp2_with (first | (go_at_call 91; refine (HF.out _).mono ?_; rintro e w' ⟨rfl, rfl⟩))
  go_ret
  exact ⟨rfl, by go_grown⟩
set_option maxRecDepth 100000 in
theorem hold_second (op n : Int) (v : V) (w : World) (h : v.failed = (0, false)) :
    Calls Tryz.prog 23 #[.int .i64 op, v.val, (V.fail n).val] w fun e w' => e = .returned (V.fail n).val ∧ Below w.heap.size w w' := by
  have HF := Lib.hid fun w => failed_any (.fail n) w
  have HV := Lib.hid fun w => failed_any v w
  rw [h] at HV
  simp only [V.val, V.failed] at HF
  rw [V.val_eq v] at HV ⊢
  clear h
  generalize v.ty = t at *
  generalize v.raw = x at *
  simp only [V.val]
  go_enter Tryz.func23, Tryz.ntmps23
  go_wp2_with (first | (go_at_call 91; fail))
  go_at_call 91
  refine (HV.out _).mono ?_
  rintro e w' ⟨rfl, rfl⟩
  go_wp2_with (first | (go_at_call 91; fail))
  go_at_call 91
  refine (HF.out _).mono ?_
  rintro e w' ⟨rfl, rfl⟩
  go_wp2
  go_ret
  exact ⟨rfl, by go_grown⟩
theorem hold_want (op n : Int) (v : V) (w : World) :
    Calls Tryz.prog 23 #[.int .i64 op, v.val, (V.fail n).val] w fun e w' => e = .returned (v.first n).val ∧ Below w.heap.size w w' := by
  cases v with
  | fail m => exact hold_first op m (.fail n) w
  | num a => exact hold_second op n _ w rfl
  | text a => exact hold_second op n _ w rfl
  | bool a => exact hold_second op n _ w rfl
  | blank => exact hold_second op n _ w rfl
set_option maxRecDepth 100000 in
theorem arith_fail (op n : Int) (v : V) (w : World) (hG : GM w) (hn : ¬ n = 0) :
    Calls Tryz.prog 25 #[.int .i64 op, (V.fail n).val, v.val] w fun e w' => e = .returned (V.fail n).val ∧ Below w.heap.size w w' := by
  have HA := Lib.hid fun w hM => asNumber_is (.fail n) 0 n w hM trivial rfl
  have hn0 : (n == 0) = false := by rw [beq_eq_false_iff_ne]; exact hn
  rw [V.val_eq v]
  generalize v.ty = t
  generalize v.raw = x
  simp only [V.val] at HA ⊢
  go_enter Tryz.func25, Tryz.ntmps25
  go_wp2_with (first | (go_at_call 27; fail))
  go_at_call 27
  refine (HA.out _ hG).mono ?_
  rintro e w1 ⟨rfl, hb⟩
  go_wp2
  go_ret
  exact ⟨rfl, hb⟩
set_option maxRecDepth 100000 in
theorem join_want (n : Int) (v : V) (w : World) (hP : GP w) (hg : v.good) (hn7 : 1 ≤ n ∧ n ≤ 7) :
    Calls Tryz.prog 19 #[v.val, (V.fail n).val] w fun e w' => e = .returned (v.first n).val ∧ Below w.heap.size w w' := by
  have hn : ¬ n = 0 := by omega
  have hn0 : (n == 0) = false := by rw [beq_eq_false_iff_ne]; exact hn
  have HV := Lib.hid fun w hP => asText_any v w hP hg
  by_cases hf : ∃ m, v = .fail m
  · obtain ⟨m, rfl⟩ := hf
    have hm0 : (m == 0) = false := by rw [beq_eq_false_iff_ne]; have := hg.1; omega
    have hm : ¬ m = 0 := by have := hg.1; omega
    clear hg
    simp only [V.val, V.failed, V.first] at HV ⊢
    go_enter Tryz.func19, Tryz.ntmps19
    go_wp2_with (first | (go_at_call 28; fail))
    go_at_call 28
    refine (HV.out _ hP).mono ?_
    rintro e w1 ⟨s, rfl, hb⟩
    go_wp2
    go_ret
    exact ⟨rfl, hb⟩
  · have e1 : v.failed.1 = 0 := by cases v <;> first | rfl | exact absurd ⟨_, rfl⟩ hf
    have e2 : v.first n = .fail n := by cases v <;> first | rfl | exact absurd ⟨_, rfl⟩ hf
    have HF := Lib.hid fun w hP => asText_any (.fail n) w hP hn7
    rw [e1] at HV
    rw [e2]
    clear e1 e2 hf hg
    rw [V.val_eq v] at HV ⊢
    generalize v.ty = t at *
    generalize v.raw = x at *
    simp only [V.val, V.failed] at HF ⊢
    go_enter Tryz.func19, Tryz.ntmps19
    go_wp2_with (first | (go_at_call 28; fail))
    go_at_call 28
    refine (HV.out _ hP).mono ?_
    rintro e w1 ⟨s, rfl, hb⟩
    have hP1 := hP.below hb
    go_wp2_with (first | (go_at_call 28; fail))
    go_at_call 28
    refine (HF.out _ hP1).mono ?_
    rintro e w2 ⟨s2, rfl, hb2⟩
    have hb12 := hb.trans (hb2.mono hb.size)
    go_wp2
    go_ret
    exact ⟨rfl, hb12⟩
end Go.Proofs.YtkobkeopajohiaaGreatDoor
namespace Go.Proofs.YtkobkeopajohiaaGreatDoor
open Go.Lib
theorem get_ext (s : ByteArray) (p k : Nat) : (s.extract p s.size).get! (0 + k) = s.get! (p + k) := by
  have e : (s.extract p s.size).data[0 + k]? = s.data[p + k]? := by
    rw [ByteArray.data_extract, Array.getElem?_extract]
    have : s.size = s.data.size := rfl
    by_cases h : p + k < s.data.size
    · rw [if_pos (by omega)]; simp
    · rw [if_neg (by omega), Array.getElem?_eq_none (by omega)]
  simp only [ByteArray.get!, getElem!_def, e]
theorem decode_cut (s : ByteArray) (p : Nat) : Utf8.decode (s.extract p s.size) 0 = Utf8.decode s p := by
  rw [decode_at, decode_at]
  rw [show (s.extract p s.size).get! 0 = s.get! p from get_ext s p 0, get_ext s p 1, get_ext s p 2, get_ext s p 3]
  simp
/-- how many bytes the sign at a place has, by its bytes; 0: there is none -/
def signW (n b0 b1 b2 b3 : Nat) : Nat :=
  if b0 < 128 then 1 else
  if 194 ≤ b0 ∧ b0 ≤ 223 ∧ (1 < n ∧ 128 ≤ b1 ∧ b1 ≤ 191) then 2 else
  let from' := if b0 = 240 then 144 else if b0 = 224 ∨ b0 = 240 then 160 else 128
  let to' := if b0 = 244 then 143 else if b0 = 237 then 159 else 191
  if 224 ≤ b0 ∧ b0 ≤ 239 ∧ (1 < n ∧ from' ≤ b1 ∧ b1 ≤ to') ∧ (2 < n ∧ 128 ≤ b2 ∧ b2 ≤ 191) then 3 else
  if 240 ≤ b0 ∧ b0 ≤ 244 ∧ (1 < n ∧ from' ≤ b1 ∧ b1 ≤ to') ∧ (2 < n ∧ 128 ≤ b2 ∧ b2 ≤ 191) ∧ (3 < n ∧ 128 ≤ b3 ∧ b3 ≤ 191) then 4 else 0
set_option maxRecDepth 100000 in
set_option maxHeartbeats 4000000 in
theorem signW_eq (n b0 b1 b2 b3 : Nat) (h0 : b0 < 256) (h1 : b1 < 256) (h2 : b2 < 256) (h3 : b3 < 256) :
    signW n b0 b1 b2 b3 = if (decodeN n b0 b1 b2 b3).2 = 1 ∧ (decodeN n b0 b1 b2 b3).1 = 65533 then 0 else (decodeN n b0 b1 b2 b3).2 := by
  unfold signW decodeN
  by_cases a0 : b0 < 128
  · simp only [a0, if_true]
    rw [if_neg (by omega)]
  simp only [a0, if_false]
  by_cases a1 : 194 ≤ b0 ∧ b0 ≤ 223
  · have e1 : b0 / 32 = 6 := by omega
    have e2 : ¬ b0 / 16 = 14 := by omega
    have e3 : ¬ b0 / 8 = 30 := by omega
    have e4 : ¬ 224 ≤ b0 := by omega
    have e5 : ¬ 240 ≤ b0 := by omega
    simp only [e1, e2, e3, e4, e5, a1.1, a1.2, true_and, false_and, if_false]
    by_cases c : 1 < n ∧ b1 / 64 = 2
    · rw [if_pos c]
      repeat' split
      all_goals first | rfl | (exfalso; omega) | (simp_all; done) | (exfalso; simp_all; omega)
    · rw [if_neg c]
      repeat' split
      all_goals first | rfl | (exfalso; omega) | (simp_all; done) | (exfalso; simp_all; omega)
  · rw [if_neg (by omega)]
    by_cases a2 : 224 ≤ b0 ∧ b0 ≤ 239
    · have e1 : ¬ b0 / 32 = 6 := by omega
      have e2 : b0 / 16 = 14 := by omega
      have e3 : ¬ b0 / 8 = 30 := by omega
      have e5 : ¬ 240 ≤ b0 := by omega
      have e6 : ¬ b0 = 240 := by omega
      have e7 : ¬ b0 = 244 := by omega
      simp only [e1, e2, e3, e5, e6, e7, a2.1, a2.2, true_and, false_and, if_false, or_false]
      by_cases c : (1 < n ∧ b1 / 64 = 2) ∧ 2 < n ∧ b2 / 64 = 2
      · rw [if_pos c]
        repeat' split
        all_goals first | rfl | (exfalso; omega) | (simp_all; done) | (exfalso; simp_all; omega)
      · rw [if_neg c]
        repeat' split
        all_goals first | rfl | (exfalso; omega) | (simp_all; done) | (exfalso; simp_all; omega)
    · by_cases a3 : 240 ≤ b0 ∧ b0 ≤ 244
      · have e1 : ¬ b0 / 32 = 6 := by omega
        have e2 : ¬ b0 / 16 = 14 := by omega
        have e3 : b0 / 8 = 30 := by omega
        have e5 : ¬ b0 ≤ 239 := by omega
        have e6 : ¬ b0 = 237 := by omega
        have e7 : ¬ b0 = 224 := by omega
        simp only [e1, e2, e3, e5, e6, e7, a3.1, a3.2, true_and, false_and, if_false, false_or, and_false]
        by_cases c : (1 < n ∧ b1 / 64 = 2) ∧ (2 < n ∧ b2 / 64 = 2) ∧ 3 < n ∧ b3 / 64 = 2
        · rw [if_pos c]
          repeat' split
          all_goals first | rfl | (exfalso; omega) | (simp_all; done) | (exfalso; simp_all; omega)
        · rw [if_neg c]
          repeat' split
          all_goals first | rfl | (exfalso; omega) | (simp_all; done) | (exfalso; simp_all; omega)
      · repeat' split
        all_goals first | rfl | (exfalso; omega) | (simp_all; done) | (exfalso; simp_all; omega)
end Go.Proofs.YtkobkeopajohiaaGreatDoor
namespace Go.Proofs.YtkobkeopajohiaaGreatDoor
open Go.Lib
/-- .. at a place of a text -/
def signAt (s : ByteArray) (p : Nat) : Nat := signW (s.size - p) (s.get! p).toNat (s.get! (p + 1)).toNat (s.get! (p + 2)).toNat (s.get! (p + 3)).toNat
theorem signAt_eq (s : ByteArray) (p : Nat) : signAt s p = if badAt s p then 0 else (Utf8.decode s p).2 := by
  unfold signAt badAt
  rw [decode_cut, signW_eq _ _ _ _ _ (UInt8.toNat_lt _) (UInt8.toNat_lt _) (UInt8.toNat_lt _) (UInt8.toNat_lt _), decode_at]
  simp only [Bool.and_eq_true, beq_iff_eq, and_comm]
end Go.Proofs.YtkobkeopajohiaaGreatDoor
