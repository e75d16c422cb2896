/-
  CONTRACTS of the reference's functions of digits: Size, Strip, Value, Digits.
-/
import Derived.Test.YtkobkeopajohiaaGreatDoorR1
import Derived.LoopTactic
import Derived.Laws.IdiomStrings
namespace Go.Proofs.YtkobkeopajohiaaGreatDoor
open Go.RowKit Go.Lib
theorem refSize_any (a : Int) (w : World) (h0 : -4000000000000000000 ≤ a) (h1 : a ≤ 4000000000000000000) :
    Calls Tryz.prog 64 #[.int .i64 a] w fun e w' => e = .returned (.int .u64 (a.natAbs : Int)) ∧ w = w' := by
  by_cases hn : a < 0
  · go_enter Tryz.func64, Tryz.ntmps64
    go_wp2
    go_ret
    exact ⟨ret_int (by omega), rfl⟩
  · go_enter Tryz.func64, Tryz.ntmps64
    go_wp2
    go_ret
    exact ⟨ret_int (by omega), rfl⟩

theorem strip_any (s : ByteArray) (w : World) :
    Calls Tryz.prog 132 #[.string s] w fun e w' => e = .returned (.string ⟨(Tab.strip s.data.toList).toArray⟩) ∧ w = w' := by
  generalize hR : Tab.strip s.data.toList = R
  have HR := Lib.hid hR
  clear hR
  go_enter Tryz.func132, Tryz.ntmps132
  go_wp2
  go_loop [0] (fun v => ∃ t : ByteArray, v = .string t ∧ t.size ≤ s.size ∧ Hid (Tab.strip t.data.toList = R)) (fun v => match v with | .string t => t.size | _ => 0)
  case atStart => exact ⟨s, rfl, Nat.le_refl _, HR.out⟩
  case round =>
    obtain ⟨t, rfl, ht, hinv⟩ := hrel
    by_cases h0 : 0 < t.size
    · have hl : 0 < t.data.toList.length := by rw [← size_eq]; exact h0
      obtain ⟨c, l, hcl⟩ : ∃ c l, t.data.toList = c :: l := by
        cases hh : t.data.toList with
        | nil => rw [hh] at hl; simp at hl
        | cons c l => exact ⟨c, l, rfl⟩
      have hg : t.data.toList.getD 0 0 = c := by rw [hcl]; rfl
      have hx : (t.extract 1 t.size).data.toList = l := by
        rw [extract_data, hcl]
        simp only [List.drop_succ_cons, List.drop_zero]
        exact List.take_of_length_le (by have := congrArg List.length hcl; rw [← size_eq, List.length_cons] at this; omega)
      have hce : t[0]'h0 = c := by
        have e1 : t.data.toList[0]'hl = c := by simp only [hcl]; rfl
        rw [← e1]; simp; rfl
      have hc8 := c.toNat_lt
      by_cases h48 : c = 48
      · have hb : (((t[0]'h0).toNat : Int) == 48) = true := by rw [hce, h48]; rfl
        have hst : Tab.strip (t.extract 1 t.size).data.toList = R := by
          rw [hx, ← hinv.out, hcl, h48]; rfl
        have HS := Lib.hid hst
        have hsz : (t.extract 1 t.size).size = t.size - 1 := by rw [size_eq, hx, size_eq, hcl]; rfl
        have HZ := Lib.hid hsz
        clear hcl hce hl hg hx hst hsz h48
        go_wp2
        go_round
        case rel => exact ⟨_, rfl, by rw [HZ.out]; omega, HS.out⟩
        case measure => show (t.extract 1 t.size).size < t.size; rw [HZ.out]; omega
      · have hb : (((t[0]'h0).toNat : Int) == 48) = false := by
          rw [hce, beq_eq_false_iff_ne]
          intro e
          exact h48 (by rw [← UInt8.toNat_inj]; show c.toNat = 48; omega)
        have hst : t.data.toList = R := by
          have : (c == 48) = false := by simp [h48]
          rw [← hinv.out, hcl]; simp [Tab.strip, List.dropWhile, this]
        have HS := Lib.hid hst
        clear hcl hce hl hg hx hst h48
        go_wp2
        go_ret
        exact ⟨ret_str HS.out, rfl⟩
    · have hn : t.data.toList = R := by
        have : t.data.toList = [] := List.eq_nil_of_length_eq_zero (by rw [← size_eq]; omega)
        rw [← hinv.out, this]; rfl
      have HS := Lib.hid hn
      clear hn
      go_wp2
      go_ret
      exact ⟨ret_str HS.out, rfl⟩

theorem value_any (m : Bool) (s : ByteArray) (w : World) (hs : s.size ≤ 4294967296) (hd : Tab.Dig s.data.toList) :
    Calls Tryz.prog 130 #[.bool m, .string s] w fun e w' => e = .returned (.tuple #[.int .i64 (Tab.valueR m s.data.toList).1, .bool (Tab.valueR m s.data.toList).2]) ∧ w = w' := by
  generalize hR : Tab.valueR m s.data.toList = R
  have HR := Lib.hid (show Tab.valOf m (Tab.digs 0 s.data.toList) = R from hR)
  clear hR
  go_enter Tryz.func130, Tryz.ntmps130
  go_wp2
  go_loop [6, 7] (fun v i => ∃ k x : Nat, v = .int .u64 x ∧ i = .int .i64 k ∧ k ≤ s.size ∧ x ≤ 999999999999999999 ∧ Hid (Tab.valOf m (Tab.digs x (s.data.toList.drop k)) = R)) (fun _ i => s.size - (RowKit.intOf i).toNat)
  case atStart => exact ⟨0, 0, rfl, rfl, by omega, by omega, HR.out⟩
  case round =>
    obtain ⟨k, x, rfl, rfl, hk, hx, hinv⟩ := hrel
    by_cases hlt : k < s.size
    · have hl : k < s.data.toList.length := by rw [← size_eq]; exact hlt
      have hcons : s.data.toList.drop k = s[k] :: s.data.toList.drop (k + 1) := by
        rw [List.drop_eq_getElem_cons hl]; congr 1
      have hdc := hd (s[k]) (by have := List.mem_of_mem_drop (by rw [hcons]; simp : s[k] ∈ s.data.toList.drop k); exact this)
      have hd2 := hinv.out
      rw [hcons] at hd2
      simp only [Tab.digs] at hd2
      generalize hc : s[k] = c at *
      have hno : ¬ (c < 48 ∨ 57 < c) := by
        simp only [UInt8.lt_iff_toNat_lt]
        show ¬ (c.toNat < 48 ∨ 57 < c.toNat)
        omega
      simp only [not_or] at hno
      have n1 : 48 ≤ (c.toNat : Int) := by omega
      have n2 : (c.toNat : Int) ≤ 57 := by omega
      by_cases hb : 99999999999999999 < x
      · rw [if_pos (.inr (.inr hb))] at hd2
        have hr : R = (0, false) := hd2.symm
        have HD := Lib.hid hr
        clear hd2 hr hcons hno
        go_wp2
        go_ret2
        exact ⟨by rw [HD.out]; rfl, rfl⟩
      · rw [if_neg (by simp only [not_or]; exact ⟨hno.1, hno.2, hb⟩)] at hd2
        have HD := Lib.hid hd2
        clear hd2 hcons hno
        go_wp2
        go_round
        case rel => exact ⟨k + 1, 10 * x + (c.toNat - 48), by go_num, by go_num, by omega, by omega, HD.out⟩
        case measure => simp [RowKit.intOf]; omega
    · have hke : k = s.data.toList.length := by rw [← size_eq]; omega
      have hend := hinv.out
      rw [hke, List.drop_length] at hend
      have hx1 : ¬ 999999999999999999 < x := by omega
      cases m with
      | false =>
        have hr : R = ((x : Int), true) := by rw [← hend]; simp [Tab.digs, Tab.valOf, Tab.made, hx1]
        have HE := Lib.hid hr
        clear hend hr hke hx1 hinv
        go_wp2
        go_ret2
        exact ⟨by rw [HE.out]; rfl, rfl⟩
      | true =>
        have hr : R = (-(x : Int), true) := by rw [← hend]; simp [Tab.digs, Tab.valOf, Tab.made, hx1]
        have HE := Lib.hid hr
        clear hend hr hke hx1 hinv
        go_wp2
        go_ret2
        exact ⟨by rw [HE.out]; rfl, rfl⟩
/-- the rounds of Digits: behind i of them u is left, and what has been said is ahead of it -/
def DigInv (n i u : Nat) (acc : List UInt8) : Prop := u < 10 ^ (20 - i) ∧ (i = 0 → u = n ∧ acc = []) ∧ (i ≠ 0 → decDigits n = (if u = 0 then [] else decDigits u) ++ acc)
theorem digInv_step {n i u : Nat} {acc : List UInt8} (h : DigInv n i u acc) (hi : i < 20) (hc : i = 0 ∨ u ≠ 0) : DigInv n (i + 1) (u / 10) (UInt8.ofNat (48 + u % 10) :: acc) := by
  obtain ⟨h1, h2, h3⟩ := h
  have hp : 10 ^ (20 - i) = 10 ^ (20 - (i + 1)) * 10 := by rw [← Nat.pow_succ]; congr 1; omega
  refine ⟨by rw [hp] at h1; omega, fun e => by omega, fun _ => ?_⟩
  have hd : decDigits n = decDigits u ++ acc := by
    by_cases h0 : i = 0
    · obtain ⟨rfl, rfl⟩ := h2 h0; simp
    · have := h3 h0
      rw [if_neg (by omega)] at this
      exact this
  rw [hd, decDigits]
  by_cases h10 : u < 10
  · rw [dif_pos h10, if_pos (by omega), show u % 10 = u by omega]; rfl
  · rw [dif_neg h10, if_neg (by omega), List.append_assoc]; rfl
theorem digInv_end {n i u : Nat} {acc : List UInt8} (h : DigInv n i u acc) (hi : i ≤ 20) (hc : 20 ≤ i ∨ i ≠ 0 ∧ u = 0) : decDigits n = acc := by
  obtain ⟨h1, h2, h3⟩ := h
  have hu : u = 0 := by
    rcases hc with hc | hc
    · have : i = 20 := by omega
      subst this; simpa using h1
    · exact hc.2
  have := h3 (by rcases hc with hc | hc <;> omega)
  rw [if_pos hu] at this
  simpa using this

theorem conv_one (W : World) (T : TypeId) (x : Int) (c : UInt8) (h : x = (c.toNat : Int)) :
    (convert 59 9 (.slice (some ⟨W.heap.size, 0, none⟩) 1 1)).run Tryz.prog (W.alloc (.cells #[.int .u8 x] T)) = .ok (.string ⟨#[c]⟩) (W.alloc (.cells #[.int .u8 x] T)) := by
  refine run_convert_bytes_back (W.alloc (.cells #[.int .u8 x] T)) 59 9 5 ⟨W.heap.size, 0, none⟩ 1 [c] Tryz.underlying59 Tryz.underlying5 Tryz.underlying9 fun j hj => ?_
  have : j = 0 := by simpa using hj
  subst this
  rw [Go.WideShapes.add_plain, World.cell?_alloc_new, h]
  rfl
set_option maxRecDepth 100000 in
theorem digits_any (n : Nat) (w : World) (hn : n < 18446744073709551616) :
    Calls Tryz.prog 129 #[.int .u64 n] w fun e w' => e = .returned (.string ⟨(decDigits n).toArray⟩) ∧ Below w.heap.size w w' := by
  have hst := Lib.hid (show DigInv n 0 n [] from ⟨by show n < 10 ^ 20; exact Nat.lt_trans hn (by decide), fun _ => ⟨rfl, rfl⟩, fun h => absurd rfl h⟩)
  generalize hR : decDigits n = R
  have HR := Lib.hid hR
  clear hR
  go_enter Tryz.func129, Tryz.ntmps129
  go_wp2
  go_loopw [0, 3, 4] (fun vu va vi wr => ∃ (u i : Nat) (acc : ByteArray), vu = .int .u64 u ∧ va = .string acc ∧ vi = .int .i64 i ∧ i ≤ 20 ∧ u < 18446744073709551616 ∧ acc.size ≤ i ∧ Below w.heap.size w wr ∧ Hid (DigInv n i u acc.data.toList)) (fun _ _ vi _ => 20 - (RowKit.intOf vi).toNat)
  case atStart => exact ⟨n, 0, ⟨#[]⟩, rfl, rfl, rfl, by omega, hn, by decide, Below.refl _ _, hst.out⟩
  case round =>
    obtain ⟨u, i, acc, rfl, rfl, rfl, hi, hu, ha, hbw, hinv⟩ := hrel
    by_cases h20 : i < 20
    · by_cases hz : i = 0 ∨ u ≠ 0
      · have HN := Lib.hid (digInv_step hinv.out h20 hz)
        have hg : (i : Int) = 0 ∨ 0 < (u : Int) := by omega
        have hi0 : ((i : Int) == 0) = true ∨ ((i : Int) == 0) = false ∧ decide (0 < u) = true := by
          by_cases h0 : i = 0
          · left; simp [h0]
          · right; exact ⟨by simp; omega, decide_eq_true (by omega)⟩
        have hcb : (48 : Int) + (u : Int) % 10 = ((UInt8.ofNat (48 + u % 10)).toNat : Int) := by rw [Tab.dig_byte _ (by omega)]; omega
        have hcv := fun W T => conv_one W T _ _ hcb
        generalize UInt8.ofNat (48 + u % 10) = c at *
        have HN2 : Hid (DigInv n (i + 1) (u / 10) ((⟨#[c]⟩ : ByteArray) ++ acc).data.toList) := by rw [ByteArray.data_append, Array.toList_append]; exact HN.out
        have hal : ∀ o : Obj, Below w.heap.size w (wr.alloc o) := fun o => hbw.alloc hbw.size o
        clear hz hg hcb HN hinv
        rcases hi0 with h1 | ⟨h1, h2⟩
        all_goals
          go_wp2
          go_roundw
          case rel => exact ⟨u / 10, i + 1, _, by go_num, rfl, by go_num, by omega, by omega, by rw [ByteArray.size_append]; show 1 + acc.size ≤ _; omega, hal _, HN2.out⟩
          case measure => simp [RowKit.intOf]; omega
      · have hend := digInv_end hinv.out hi (.inr ⟨fun h => hz (.inl h), by omega⟩)
        rw [HR.out] at hend
        have HE := Lib.hid hend.symm
        have h1 : ((i : Int) == 0) = false := by simp; omega
        have h3 : decide (0 < u) = false := decide_eq_false (by omega)
        clear hz hend hinv
        go_wp2
        go_ret
        exact ⟨ret_str HE.out, hbw⟩
    · have hend := digInv_end hinv.out hi (.inl (by omega))
      rw [HR.out] at hend
      have HE := Lib.hid hend.symm
      clear hend hinv
      go_wp2
      go_ret
      exact ⟨ret_str HE.out, hbw⟩
end Go.Proofs.YtkobkeopajohiaaGreatDoor
