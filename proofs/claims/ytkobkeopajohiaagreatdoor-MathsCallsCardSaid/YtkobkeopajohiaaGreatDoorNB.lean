/-
  CONTRACT of the reference's Times: two rows of digits, digit by digit.
  CONTRACTS of the reference's Mul and Div: by digits they come to the program's numbers.
-/
import Derived.Test.YtkobkeopajohiaaGreatDoorRR
import Derived.Test.YtkobkeopajohiaaGreatDoorPL
import Derived.Deep.OwnRows
import Derived.StillTailTactics
import Derived.Deep.QuietTactic
import Derived.BigQuiet
namespace Go.Proofs.YtkobkeopajohiaaGreatDoor
open Go.RowKit Go.Lib

/-- a block of the call's own: its first cells are these numbers -/
def IntsAt (w : World) (b : Nat) (o : List Nat) : Prop :=
  ∀ j, j < o.length → w.cell? ⟨b, j, none⟩ = some (.int .i64 (o.getD j 0 : Nat)) ∧ w.frozen? ⟨b, j, none⟩ = false
theorem IntsAt.set {w : World} {b : Nat} {o : List Nat} (h : IntsAt w b o) (i : Nat) (hi : i < o.length) (x : Nat) : IntsAt (w.setCell ⟨b, i, none⟩ (.int .i64 (x : Int))) b (o.set i x) := fun j hj => by
  rw [List.length_set] at hj
  obtain ⟨h1, h2⟩ := h j hj
  obtain ⟨h3, _⟩ := h i hi
  by_cases e : j = i
  · subst e
    refine ⟨?_, ?_⟩
    · rw [World.cell?_setCell_same _ _ _ h3]
      simp [hi]
    · rw [World.frozen?_setCell]; exact h2
  · refine ⟨?_, ?_⟩
    · rw [World.cell?_setCell_other _ _ _ _ (by simp), h1]
      simp [List.getD_eq_getElem?_getD, Ne.symm e]
    · rw [World.frozen?_setCell]; exact h2
theorem IntsAt.drew {w : World} {b : Nat} {o : List Nat} (h : IntsAt w b o) : IntsAt w.drew b o := h
theorem intsAt_new (w : World) (n : Nat) (T : TypeId) : IntsAt (w.alloc (.cells (madeCells #[.int .i64 0] n) T)) w.heap.size (List.replicate n 0) := fun j hj => by
  rw [List.length_replicate] at hj
  refine ⟨?_, ?_⟩
  · rw [World.cell?_alloc_new]
    simp [madeCells, hj, Nat.mod_one]
  · rw [World.frozen?_alloc_new]
theorem IntsAt.below {w w' : World} {b : Nat} {o : List Nat} (h : IntsAt w b o) (hb : b < w.heap.size) (hbw : Below w.heap.size w w') : IntsAt w' b o := fun j hj =>
  ⟨(hbw.cell hb).trans (h j hj).1, (hbw.frozen hb).trans (h j hj).2⟩
theorem info3i : (Tryz.prog.info? 3).map (fun i => (i.zero, i.size, i.bytes)) = some (some (.int .i64 0), 1, 8) := by kernel_rfl

set_option maxHeartbeats 3200000 in
set_option maxRecDepth 100000 in
theorem times_any (x y : ByteArray) (w : World) (hx : x.size ≤ 1000) (hy : y.size ≤ 1000) (hx1 : 1 ≤ x.size) (hy1 : 1 ≤ y.size) (hdx : Tab.Dig x.data.toList) (hdy : Tab.Dig y.data.toList) :
    Calls Tryz.prog 135 #[.string x, .string y] w fun e w' => (∃ s : ByteArray, e = .returned (.string s) ∧ Tab.Dig s.data.toList ∧ Tab.val s.data.toList = Tab.val x.data.toList * Tab.val y.data.toList ∧ s.size = x.size + y.size) ∧ Below w.heap.size w w' := by
  obtain ⟨n, hn⟩ : ∃ n, x.size + y.size = n := ⟨_, rfl⟩
  have hmk := run_make_row' (P := Tryz.prog) 179 3 (.int .i64 0) 8 Tryz.underlying179 info3i rfl .i64 .i64 n (by omega) (by omega)
  have hni : (x.size : Int) + (y.size : Int) = (n : Int) := by omega
  have hn1 : n ≤ 2000 := by omega
  have HN := Lib.hid hn
  clear hn
  go_enter Tryz.func135, Tryz.ntmps135
  go_wp2
  clear hmk
  have hB0 : Below w.heap.size w (w.alloc (.cells (madeCells #[.int .i64 0] n) 3)) := (Below.refl _ _).alloc (Nat.le_refl _) _
  have hI0 := intsAt_new w n 3
  generalize w.alloc (.cells (madeCells #[.int .i64 0] n) 3) = W0 at *
  go_loopw [6] (fun vi wr => ∃ (v : Int) (j : Nat) (o : List Nat), vi = .int .i64 v ∧ v ≤ (j : Int) - 1 ∧ (j : Int) - 1 ≤ v ∧ j ≤ x.size ∧ Hid (o.length = n) ∧ Hid (∀ d ∈ o, d ≤ 81 * (1000 * (x.size - j))) ∧ Hid (Tab.vn o = Tab.val (x.data.toList.drop j) * Tab.val y.data.toList) ∧ IntsAt wr w.heap.size o ∧ Below w.heap.size w wr) (fun vi _ => (RowKit.intOf vi + 1).toNat)
  case atStart =>
    refine ⟨_, x.size, List.replicate n 0, rfl, by omega, by omega, Nat.le_refl _, Lib.hid (List.length_replicate ..), Lib.hid fun d hd => ?_, Lib.hid ?_, hI0, hB0⟩
    · rw [(List.mem_replicate.1 hd).2]; omega
    · rw [Tab.vn_zeros, List.drop_of_length_le (by rw [← size_eq]; exact Nat.le_refl _)]
      simp [Tab.val_nil]
  case round =>
    obtain ⟨v, j, o, rfl, v1, v2, hj, hol, hod, hov, hI, hB⟩ := hrel
    clear hI0 hB0
    obtain ⟨wo, rfl⟩ : ∃ wo : World, wo = wr := ⟨_, rfl⟩
    rcases j with _ | i
    · obtain rfl : v = -1 := by omega
      have hval := hov.out
      rw [List.drop_zero] at hval
      have HV := Lib.hid hval
      have hodb : ∀ d ∈ o, d ≤ 90000000 := fun d hd => by have := hod.out d hd; omega
      have HOD := Lib.hid hodb
      clear hov hod hval hodb v1 v2
      go_wp2
      go_loopw [8] (fun vi wr => ∃ (v : Int) (m : Nat) (o : List Nat), vi = .int .i64 v ∧ v ≤ (m : Int) - 1 ∧ (m : Int) - 1 ≤ v ∧ 1 ≤ m ∧ m ≤ n ∧ Hid (o.length = n) ∧ Hid (∀ d ∈ o, d ≤ 200000000) ∧ Hid (∀ k, k + 1 < m → o.getD k 0 ≤ 90000000) ∧ Hid (∀ k, m ≤ k → o.getD k 0 < 10) ∧
          Hid (Tab.vn o = Tab.val x.data.toList * Tab.val y.data.toList) ∧ IntsAt wr w.heap.size o ∧ Below w.heap.size w wr) (fun vi _ => (RowKit.intOf vi + 1).toNat)
      case atStart =>
        refine ⟨_, n, o, rfl, by omega, by omega, by have := HN.out; omega, Nat.le_refl _, hol, Lib.hid fun d hd => by have := HOD.out d hd; omega, Lib.hid fun k hk => ?_, Lib.hid fun k hk => ?_, HV, hI, hB⟩
        · have hkl : k < o.length := by rw [hol.out]; omega
          rw [List.getD_eq_getElem?_getD, List.getElem?_eq_getElem hkl]
          exact HOD.out _ (List.getElem_mem hkl)
        · rw [List.getD_eq_getElem?_getD, List.getElem?_eq_none (by rw [hol.out]; exact hk)]
          decide
      case round =>
        obtain ⟨v, m, o2, rfl, v1, v2, hm1, hmn, hol2, hod2, hlow2, hhi2, hov2, hI2, hB2⟩ := hrel
        clear hI hB hol HOD HV
        by_cases hm : m = 1
        · subst hm
          obtain rfl : v = 0 := by omega
          have hall : ∀ d ∈ o2, d < 10 := by
            obtain ⟨d0, ot, ho⟩ : ∃ d l, o2 = d :: l := by
              cases h : o2 with
              | nil => have := hol2.out; rw [h] at this; simp at this; omega
              | cons d l => exact ⟨d, l, rfl⟩
            have hvn := hov2.out
            have hlt : Tab.vn o2 < 10 ^ n := by
              rw [hvn, ← HN.out, Nat.pow_add, size_eq x, size_eq y]
              exact Nat.mul_lt_mul'' (Tab.val_lt hdx) (Tab.val_lt hdy)
            have hh := hhi2.out
            have hlen := hol2.out
            subst ho
            rw [← hlen, List.length_cons] at hlt
            have h0 := Tab.head_small _ _ hlt
            intro d hd
            obtain ⟨k, hk, rfl⟩ := List.mem_iff_getElem.1 hd
            rcases k with _ | k
            · exact h0
            · have := hh (k + 1) (by omega)
              rw [List.getD_eq_getElem?_getD, List.getElem?_eq_getElem hk] at this
              exact this
          obtain ⟨g1, g2⟩ := Tab.digsOf_ok o2 hall
          have G1 := Lib.hid g1
          have G2 := Lib.hid (g2.trans hov2.out)
          have HA := Lib.hid hall
          have hwb : w.heap.size < wr.heap.size := by
            have := hI2 0 (by rw [hol2.out]; omega)
            exact lt_of_cell this.1
          have HWB := Lib.hid hwb
          have HX := Lib.hid hdx
          clear g1 g2 hall hov2 hhi2 hlow2 hod2 hwb hdx hdy v1 v2
          go_wp2
          go_loopw [9, 81] (fun vs vi wr => ∃ (k : Nat) (s : ByteArray), vs = .string s ∧ vi = .int .i64 k ∧ k ≤ n ∧ s.size ≤ k ∧ Hid (s.data.toList = Tab.digsOf (o2.take k)) ∧ IntsAt wr w.heap.size o2 ∧ Hid (w.heap.size < wr.heap.size) ∧ Below w.heap.size w wr) (fun _ vi _ => n - (RowKit.intOf vi).toNat)
          case atStart => exact ⟨0, ⟨#[]⟩, rfl, rfl, Nat.zero_le _, Nat.le_refl _, Lib.hid (by rfl), hI2, HWB, hB2⟩
          case round =>
            obtain ⟨k, s, rfl, rfl, hk, hs, hsl, hI3, hw3, hB3⟩ := hrel
            clear hI2 hB2 HWB
            by_cases hkn : k < n
            · have hkl : k < o2.length := by rw [hol2.out]; exact hkn
              obtain ⟨hc, hf⟩ := hI3 k hkl
              obtain ⟨d, hd⟩ : ∃ d, o2.getD k 0 = d := ⟨_, rfl⟩
              rw [hd] at hc
              have hd2 : o2[k]'hkl = d := by rw [← hd, List.getD_eq_getElem?_getD, List.getElem?_eq_getElem hkl]; rfl
              have hd10 : d < 10 := by rw [← hd2]; exact HA.out _ (List.getElem_mem hkl)
              have hcb : (48 : Int) + (d : Int) = ((UInt8.ofNat (48 + d)).toNat : Int) := by rw [Tab.dig_byte _ hd10]; omega
              have hcv := fun W T => conv_one W T _ _ hcb
              have hnew : Tab.digsOf (o2.take (k + 1)) = Tab.digsOf (o2.take k) ++ [UInt8.ofNat (48 + d)] := by
                rw [List.take_succ_eq_append_getElem hkl, hd2]
                simp [Tab.digsOf]
              generalize UInt8.ofNat (48 + d) = c at *
              have HS : Hid ((s ++ ⟨#[c]⟩ : ByteArray).data.toList = Tab.digsOf (o2.take (k + 1))) := Lib.hid (by rw [ByteArray.data_append, Array.toList_append, hsl.out, hnew])
              have hal : ∀ ob : Obj, Below w.heap.size w (wr.alloc ob) := fun ob => hB3.alloc hB3.size ob
              have hil : ∀ ob : Obj, IntsAt (wr.alloc ob) w.heap.size o2 := fun ob => hI3.below hw3.out ((Below.refl _ _).alloc (Nat.le_refl _) ob)
              have HIL := Lib.hid hil
              have HAL := Lib.hid hal
              clear hnew hcb hd hd2 hkl hil hal hI3 hB3
              go_wp2
              go_roundw
              case rel => exact ⟨k + 1, s ++ ⟨#[c]⟩, rfl, by go_num, by omega, by rw [ByteArray.size_append]; show s.size + 1 ≤ _; omega, HS, HIL.out _, Lib.hid (by have := hw3.out; simp; omega), HAL.out _⟩
              case measure => simp [RowKit.intOf]; omega
            · obtain rfl : k = n := by omega
              have hsl2 := hsl.out
              rw [List.take_of_length_le (by rw [hol2.out]; exact Nat.le_refl _)] at hsl2
              have HSL := Lib.hid hsl2
              have hsz : s.size = k := by rw [size_eq, hsl2]; simp [Tab.digsOf]; exact hol2.out
              have HSZ := Lib.hid hsz
              clear hsl hsl2 hsz
              go_wp2
              go_ret
              exact ⟨⟨s, rfl, by rw [HSL.out]; exact G1.out, by rw [HSL.out]; exact G2.out, by rw [HSZ.out]; exact HN.out.symm⟩, hB3⟩
        · obtain ⟨i, rfl⟩ : ∃ i, m = i + 2 := ⟨m - 2, by omega⟩
          obtain rfl : v = i + 1 := by omega
          have hl1 : i + 1 < o2.length := by rw [hol2.out]; omega
          have hstep := Tab.carry_step o2 (i + 1) (by omega) hl1
          simp only [Nat.add_sub_cancel] at hstep
          obtain ⟨hc0, hf0⟩ := hI2 i (by omega)
          obtain ⟨hc1, hf1⟩ := hI2 (i + 1) hl1
          have hb0 := hlow2.out i (by omega)
          have hb1 := hod2.out (o2.getD (i + 1) 0) (by rw [List.getD_eq_getElem?_getD, List.getElem?_eq_getElem hl1]; exact List.getElem_mem hl1)
          obtain ⟨d0, hd0⟩ : ∃ d, o2.getD i 0 = d := ⟨_, rfl⟩
          obtain ⟨d1, hd1⟩ : ∃ d, o2.getD (i + 1) 0 = d := ⟨_, rfl⟩
          rw [hd0, hd1] at hstep
          rw [hd0] at hc0 hb0
          rw [hd1] at hc1 hb1
          have hset := hI2.set i (by omega) (d0 + d1 / 10)
          have hset2 := hset.set (i + 1) (by rw [List.length_set]; exact hl1) (d1 % 10)
          have HO : Hid (((o2.set i (d0 + d1 / 10)).set (i + 1) (d1 % 10)).length = n) := Lib.hid (by rw [List.length_set, List.length_set]; exact hol2.out)
          have HM : Hid (∀ z ∈ (o2.set i (d0 + d1 / 10)).set (i + 1) (d1 % 10), z ≤ 200000000) := Lib.hid fun z hz => by
            rcases List.mem_or_eq_of_mem_set hz with hz | hz
            · rcases List.mem_or_eq_of_mem_set hz with hz | hz
              · exact hod2.out z hz
              · omega
            · omega
          have HL : Hid (∀ k, k + 1 < i + 1 → ((o2.set i (d0 + d1 / 10)).set (i + 1) (d1 % 10)).getD k 0 ≤ 90000000) := Lib.hid fun k hk => by
            rw [List.getD_eq_getElem?_getD, List.getElem?_set_ne (by omega), List.getElem?_set_ne (by omega), ← List.getD_eq_getElem?_getD]
            exact hlow2.out k (by omega)
          have HH : Hid (∀ k, i + 1 ≤ k → ((o2.set i (d0 + d1 / 10)).set (i + 1) (d1 % 10)).getD k 0 < 10) := Lib.hid fun k hk => by
            by_cases e : k = i + 1
            · subst e
              rw [List.getD_eq_getElem?_getD, List.getElem?_set_self (by rw [List.length_set]; exact hl1)]
              show d1 % 10 < 10
              omega
            · rw [List.getD_eq_getElem?_getD, List.getElem?_set_ne (by omega), List.getElem?_set_ne (by omega), ← List.getD_eq_getElem?_getD]
              exact hhi2.out k (by omega)
          have HV2 : Hid (Tab.vn ((o2.set i (d0 + d1 / 10)).set (i + 1) (d1 % 10)) = Tab.val x.data.toList * Tab.val y.data.toList) := Lib.hid (by rw [hstep]; exact hov2.out)
          have HI2 := Lib.hid hset2
          have HB2 : Hid (Below w.heap.size w ((wr.setCell ⟨w.heap.size, i, none⟩ (.int .i64 ((d0 + d1 / 10 : Nat) : Int))).setCell ⟨w.heap.size, i + 1, none⟩ (.int .i64 ((d1 % 10 : Nat) : Int)))) := Lib.hid ((hB2.setCell (Nat.le_refl _) _).setCell (Nat.le_refl _) _)
          have hc1s : ∀ z, (wr.setCell ⟨w.heap.size, i, none⟩ z).cell? ⟨w.heap.size, i + 1, none⟩ = some (.int .i64 (d1 : Int)) := fun z => by rw [World.cell?_setCell_other _ _ _ _ (by simp)]; exact hc1
          have hf1s : ∀ z, (wr.setCell ⟨w.heap.size, i, none⟩ z).frozen? ⟨w.heap.size, i + 1, none⟩ = false := fun z => by rw [World.frozen?_setCell]; exact hf1
          have hin : (i : Int) + 1 < n := by omega
          have hinN : i < n := by omega
          have hinN1 : i + 1 < n := by omega
          have s1 : IntKind.i64.wrap ((i : Int) + 1 - 1) = (i : Int) := by rw [IntKind.wrap_i64]; omega
          have s2 : IntKind.i64.wrap (i : Int) = (i : Int) := by rw [IntKind.wrap_i64]; omega
          have s3 : 0 ≤ (i : Int) + 1 := by omega
          have s4 : ((i : Int) + 1).toNat = i + 1 := by omega
          have s5 : (d1 : Int).tdiv 10 = (d1 : Int) / 10 := rfl
          have s6 : IntKind.i64.wrap ((d1 : Int) / 10) = (d1 : Int) / 10 := by rw [IntKind.wrap_i64]; omega
          have s7 : IntKind.i64.wrap ((d0 : Int) + (d1 : Int) / 10) = (d0 : Int) + (d1 : Int) / 10 := by rw [IntKind.wrap_i64]; omega
          have hd1i : (d1 : Int) ≤ 200000000 := by omega
          have hd0i : (d0 : Int) ≤ 90000000 := by omega
          clear hset hset2 hstep hd0 hd1 hI2 hB2 hod2 hov2 hlow2 hhi2 hol2 v1 v2 hl1 hm
          go_wp2
          go_still_tail 12, (by kernel_rfl)
          clear s1 s2 s3 s4 s5 s6 s7
          change wpList _ _ _ _ _ wr.drew
          go_wp2
          go_roundw
          case rel => exact ⟨_, i + 1, (o2.set i (d0 + d1 / 10)).set (i + 1) (d1 % 10), rfl, by omega, by omega, by omega, by omega, HO, HM, HL, HH, HV2, HI2.out.drew, HB2.out.drew⟩
          case measure => simp [RowKit.intOf]; omega
    · obtain rfl : v = i := by omega
      have hxl : i < x.data.toList.length := by rw [← size_eq]; omega
      have hxd := hdx _ (List.getElem_mem hxl)
      obtain ⟨cx, hcx⟩ : ∃ c, x.data.toList.getD i 0 = c := ⟨_, rfl⟩
      have hcx2 : x[i]'(by rw [size_eq]; exact hxl) = cx := by
        rw [← hcx, List.getD_eq_getElem?_getD, List.getElem?_eq_getElem hxl]; rfl
      have hxd : 48 ≤ cx.toNat ∧ cx.toNat ≤ 57 := by
        rw [← hcx, List.getD_eq_getElem?_getD, List.getElem?_eq_getElem hxl]; exact hxd
      obtain ⟨x1, x2⟩ := hxd
      have hixs : i < x.size := by omega
      have HCX := Lib.hid hcx
      clear hcx
      go_wp2
      go_loopw [7] (fun vk wr => ∃ (v : Int) (m : Nat) (o : List Nat), vk = .int .i64 v ∧ v ≤ (m : Int) - 1 ∧ (m : Int) - 1 ≤ v ∧ m ≤ y.size ∧ Hid (o.length = n) ∧ Hid (∀ d ∈ o, d ≤ 81 * (1000 * (x.size - (i + 1)) + (y.size - m))) ∧
          Hid (Tab.vn o = Tab.val (x.data.toList.drop (i + 1)) * Tab.val y.data.toList + ((x.data.toList.getD i 0).toNat - 48) * 10 ^ (x.data.toList.length - 1 - i) * Tab.val (y.data.toList.drop m)) ∧ IntsAt wr w.heap.size o ∧ Below w.heap.size w wr) (fun vi _ => (RowKit.intOf vi + 1).toNat)
      case atStart =>
        refine ⟨_, y.size, o, rfl, by omega, by omega, Nat.le_refl _, hol, Lib.hid fun d hd => ?_, Lib.hid ?_, hI, hB⟩
        · have := hod.out d hd; omega
        · rw [hov.out, List.drop_of_length_le (show y.data.toList.length ≤ y.size by rw [← size_eq]; exact Nat.le_refl _)]
          simp [Tab.val_nil]
      case round =>
        obtain ⟨v, m, o2, rfl, v1, v2, hm, hol2, hod2, hov2, hI2, hB2⟩ := hrel
        clear hI hB hol hod hov
        rcases m with _ | k
        · obtain rfl : v = -1 := by omega
          have hov3 : Tab.vn o2 = Tab.val (x.data.toList.drop i) * Tab.val y.data.toList := by
            rw [hov2.out, List.drop_zero]
            exact Tab.times_row _ _ _ hxl
          have HV3 := Lib.hid hov3
          clear hov3 v1 v2
          go_wp2
          go_roundw
          case rel => exact ⟨_, i, o2, rfl, by omega, by omega, by omega, hol2, Lib.hid fun d hd => by have := hod2.out d hd; omega, HV3, hI2, hB2⟩
          case measure => simp [RowKit.intOf]
        · obtain rfl : v = k := by omega
          have hyl : k < y.data.toList.length := by rw [← size_eq]; omega
          have hyd := hdy _ (List.getElem_mem hyl)
          obtain ⟨cy, hcy⟩ : ∃ c, y.data.toList.getD k 0 = c := ⟨_, rfl⟩
          have hcy2 : y[k]'(by rw [size_eq]; exact hyl) = cy := by
            rw [← hcy, List.getD_eq_getElem?_getD, List.getElem?_eq_getElem hyl]; rfl
          have hyd : 48 ≤ cy.toNat ∧ cy.toNat ≤ 57 := by
            rw [← hcy, List.getD_eq_getElem?_getD, List.getElem?_eq_getElem hyl]; exact hyd
          obtain ⟨y1, y2⟩ := hyd
          have hkys : k < y.size := by omega
          have hlen : i + k + 1 < o2.length := by rw [hol2.out, ← HN.out]; omega
          have hstep := Tab.times_step x.data.toList y.data.toList o2 i k _ (by rw [hol2.out, ← HN.out, size_eq, size_eq]) hxl hyl hov2.out
          obtain ⟨hc, hf⟩ := hI2 (i + k + 1) hlen
          have hdb := hod2.out (o2.getD (i + k + 1) 0) (by rw [List.getD_eq_getElem?_getD, List.getElem?_eq_getElem hlen]; exact List.getElem_mem hlen)
          have hset := fun z => hI2.set (i + k + 1) hlen z
          rw [HCX.out, hcy] at hstep
          obtain ⟨pr, hpr⟩ : ∃ p, (cx.toNat - 48) * (cy.toNat - 48) = p := ⟨_, rfl⟩
          have hprb : pr ≤ 9 * 9 := by rw [← hpr]; exact Nat.mul_le_mul (by omega) (by omega)
          have hpri : IntKind.i64.wrap (((cx.toNat : Int) - 48) * ((cy.toNat : Int) - 48)) = (pr : Int) := by
            have e : ((cx.toNat : Int) - 48) * ((cy.toNat : Int) - 48) = (((cx.toNat - 48) * (cy.toNat - 48) : Nat) : Int) := by
              rw [Int.natCast_mul]; congr 1 <;> omega
            rw [e, hpr, IntKind.wrap_i64]; omega
          have hpri2 : wrap64 (((cx.toNat : Int) - 48) * ((cy.toNat : Int) - 48)) = (pr : Int) := by rw [← hpri, IntKind.wrap_i64]; unfold wrap64; omega
          rw [hpr] at hstep
          obtain ⟨d, hd⟩ : ∃ d, o2.getD (i + k + 1) 0 = d := ⟨_, rfl⟩
          rw [hd] at hc hdb hstep
          have hsum := hset (d + pr)
          have hmem : ∀ z ∈ o2.set (i + k + 1) (d + pr), z ≤ 81 * (1000 * (x.size - (i + 1)) + (y.size - k)) := fun z hz => by
            rcases List.mem_or_eq_of_mem_set hz with hz | hz
            · have := hod2.out z hz; omega
            · omega
          have HO : Hid ((o2.set (i + k + 1) (d + pr)).length = n) := Lib.hid (by rw [List.length_set]; exact hol2.out)
          have HSUM := Lib.hid hsum
          have HMEM := Lib.hid hmem
          have HSTEP := Lib.hid hstep
          have hdb2 : (d : Int) ≤ 200000000 := by omega
          have hbs : Below w.heap.size w (wr.setCell ⟨w.heap.size, i + k + 1, none⟩ (.int .i64 ((d + pr : Nat) : Int))) := hB2.setCell (Nat.le_refl _) _
          have HBS := Lib.hid hbs
          have hin : (i : Int) + k + 1 < n := by have := HN.out; omega
          have s1 : IntKind.i64.wrap ((i : Int) + k) = (i : Int) + k := by rw [IntKind.wrap_i64]; omega
          have s2 : IntKind.i64.wrap ((i : Int) + k + 1) = (i : Int) + k + 1 := by rw [IntKind.wrap_i64]; omega
          have s3 : 0 ≤ (i : Int) + k + 1 := by omega
          have s4 : ((i : Int) + k + 1).toNat = i + k + 1 := by omega
          have s5 : IntKind.i64.wrap ((cx.toNat : Int) - 48) = (cx.toNat : Int) - 48 := by rw [IntKind.wrap_i64]; omega
          have s6 : IntKind.i64.wrap ((cy.toNat : Int) - 48) = (cy.toNat : Int) - 48 := by rw [IntKind.wrap_i64]; omega
          have s7 : IntKind.i64.wrap ((d : Int) + pr) = (d : Int) + pr := by rw [IntKind.wrap_i64]; omega
          clear hset hsum hmem hstep hpr hd hcy hdb hI2 hB2 hod2 hov2 hlen hol2 v1 v2 hbs
          go_wp2
          go_still_tail 20, (by kernel_rfl)
          clear s1 s2 s3 s4 s5 s6 s7
          change wpList _ _ _ _ _ wr.drew
          go_wp2
          go_roundw
          case rel => exact ⟨_, k, o2.set (i + k + 1) (d + pr), rfl, by omega, by omega, by omega, HO, HMEM, Lib.hid (by rw [HCX.out]; exact HSTEP.out), HSUM.out.drew, HBS.out.drew⟩
          case measure => simp [RowKit.intOf]
end Go.Proofs.YtkobkeopajohiaaGreatDoor
namespace Go.Proofs.YtkobkeopajohiaaGreatDoor
open Go.RowKit Go.Lib

theorem digs_len : ∀ (k n : Nat), n < 10 ^ (k + 1) → (decDigits n).length ≤ k + 1
  | 0, n, h => by rw [decDigits, dif_pos (by simpa using h)]; simp
  | k + 1, n, h => by
    rw [decDigits]
    by_cases h10 : n < 10
    · rw [dif_pos h10]; simp
    · rw [dif_neg h10, List.length_append]
      rw [Nat.pow_succ] at h
      have := digs_len k (n / 10) (by omega)
      simp; omega
theorem digs_pos (n : Nat) : 1 ≤ (decDigits n).length := by
  cases h : decDigits n with
  | nil => exact absurd h (Tab.dec_ne n)
  | cons c l => simp
theorem strip_len (l : List UInt8) : (Tab.strip l).length ≤ l.length := by
  obtain ⟨k, hk⟩ := Tab.strip_split l
  have := congrArg List.length hk
  rw [List.length_append] at this
  omega
/-- a number's digits -/
theorem digits_of (u : Nat) (h : u < 10000000000000000000) : ∃ s : ByteArray, s.data.toList = decDigits u ∧ 1 ≤ s.size ∧ s.size ≤ 19 ∧ (∀ w, Calls Tryz.prog 129 #[.int .u64 (u : Int)] w fun e w' => e = .returned (.string s) ∧ Below w.heap.size w w') := by
  refine ⟨⟨(decDigits u).toArray⟩, rfl, ?_, ?_, fun w => digits_any u w (by omega)⟩
  · rw [size_eq]; exact digs_pos u
  · rw [size_eq]; exact digs_len 18 u h
set_option maxHeartbeats 1600000 in
set_option maxRecDepth 100000 in
theorem refMul_any (a b n : Int) (ok : Bool) (w : World) (ha : -999999999999999999 ≤ a ∧ a ≤ 999999999999999999) (hb : -999999999999999999 ≤ b ∧ b ≤ 999999999999999999) (h : Tab.mulS a b = (n, ok)) :
    Calls Tryz.prog 98 #[.int .i64 a, .int .i64 b] w fun e w' => e = .returned (.tuple #[.int .i64 n, .bool ok]) ∧ Below w.heap.size w w' := by
  have HA := Lib.hid fun w => refSize_any a w (by omega) (by omega)
  have HB := Lib.hid fun w => refSize_any b w (by omega) (by omega)
  obtain ⟨s, s1, s2, s3, hs⟩ := digits_of a.natAbs (by omega)
  obtain ⟨t, t1, t2, t3, ht⟩ := digits_of b.natAbs (by omega)
  have HS := Lib.hid hs
  have HT := Lib.hid ht
  have HTm := Lib.hid fun w => times_any s t w (by omega) (by omega) s2 t2 (by rw [s1]; exact Tab.dig_dec _) (by rw [t1]; exact Tab.dig_dec _)
  have hval : Tab.val s.data.toList * Tab.val t.data.toList = a.natAbs * b.natAbs := by rw [s1, t1, Tab.val_dec, Tab.val_dec]
  rw [hval] at HTm
  obtain ⟨m, hm⟩ : ∃ m, (!decide (a < 0) == decide (b < 0)) = m := ⟨_, rfl⟩
  have H : Hid (∀ l : List UInt8, Tab.Dig l → Tab.val l = a.natAbs * b.natAbs → Tab.valueR m (Tab.strip (Tab.cutR l 4)) = (n, ok)) := Lib.hid fun l hl hv => by
    rw [Tab.digits_mul m hl, hv, ← hm]
    exact h
  clear h hs ht s1 t1 hval ha hb
  generalize (a.natAbs : Int) = x at *
  generalize (b.natAbs : Int) = y at *
  go_enter Tryz.func98, Tryz.ntmps98
  go_wp2_with (first | (go_at_call_of 64 (Value.int IntKind.i64 a); refine (HA.out _).mono ?_; rintro e w' ⟨rfl, rfl⟩) | (go_at_call 129; fail))
  go_at_call 129
  refine (HS.out _).mono ?_
  rintro e w1 ⟨rfl, hb1⟩
  go_wp2_with (first | (go_at_call_of 64 (Value.int IntKind.i64 b); refine (HB.out _).mono ?_; rintro e w' ⟨rfl, rfl⟩) | (go_at_call 129; fail))
  go_at_call 129
  refine (HT.out _).mono ?_
  rintro e w2 ⟨rfl, hb2⟩
  have hb12 := hb1.trans (hb2.mono hb1.size)
  clear hb1 hb2
  go_wp2_with (first | (go_at_call 135; fail))
  go_at_call 135
  refine (HTm.out _).mono ?_
  rintro e w3 ⟨⟨z, rfl, z1, z2, z3⟩, hb3⟩
  have hb13 := hb12.trans (hb3.mono hb12.size)
  clear hb12 hb3
  have hV := H.out _ z1 z2
  obtain ⟨c1, c2⟩ := Tab.cutR_val z1 4 (by omega)
  have hcl := Tab.cutR_len z.data.toList 4
  have HC := Lib.hid fun w => refCut_any z 4 w (by omega) (by omega) (by omega)
  have hd := Tab.dig_strip c1
  have hsl := strip_len (Tab.cutR z.data.toList 4)
  have hzs := size_eq z
  have HSt := Lib.hid fun w => strip_any ⟨(Tab.cutR z.data.toList 4).toArray⟩ w
  have HVa := Lib.hid fun w => value_is m ⟨(Tab.strip (Tab.cutR z.data.toList 4)).toArray⟩ n ok w (by rw [size_eq]; show (Tab.strip (Tab.cutR z.data.toList 4)).length ≤ _; omega) hd hV
  have HSt2 : Hid (∀ w, Calls Tryz.prog 132 #[.string ⟨(Tab.cutR z.data.toList 4).toArray⟩] w fun e w' => e = .returned (.string ⟨(Tab.strip (Tab.cutR z.data.toList 4)).toArray⟩) ∧ w = w') := HSt
  have HC2 : Hid (∀ w, Calls Tryz.prog 131 #[.string z, .int .i64 4] w fun e w' => e = .returned (.string ⟨(Tab.cutR z.data.toList 4).toArray⟩) ∧ Below w.heap.size w w') := HC
  clear HC HSt hzs hsl hd hcl c2 c1 hV z1 z2 z3 H
  generalize (⟨(Tab.strip (Tab.cutR z.data.toList 4)).toArray⟩ : ByteArray) = z5 at *
  generalize (⟨(Tab.cutR z.data.toList 4).toArray⟩ : ByteArray) = z4 at *
  go_wp2_with (first | (go_at_call 131; fail))
  go_at_call 131
  refine (HC2.out _).mono ?_
  rintro e w4 ⟨rfl, hb4⟩
  have hb14 := hb13.trans (hb4.mono hb13.size)
  clear hb13 hb4
  go_wp2_with (first | (go_at_call 132; refine (HSt2.out _).mono ?_; rintro e w' ⟨rfl, rfl⟩) | (go_at_call 130; refine (HVa.out _).mono ?_; rintro e w' ⟨rfl, rfl⟩))
  go_ret2
  exact ⟨rfl, hb14⟩
set_option maxHeartbeats 3200000 in
set_option maxRecDepth 100000 in
theorem refDiv_any (a b n : Int) (ok : Bool) (w : World) (ha : -999999999999999999 ≤ a ∧ a ≤ 999999999999999999) (hb : -999999999999999999 ≤ b ∧ b ≤ 999999999999999999) (hb0 : b ≠ 0) (h : Tab.divS a b = (n, ok)) :
    Calls Tryz.prog 99 #[.int .i64 a, .int .i64 b] w fun e w' => e = .returned (.tuple #[.int .i64 n, .bool ok]) ∧ Below w.heap.size w w' := by
  have HA := Lib.hid fun w => refSize_any a w (by omega) (by omega)
  have HB := Lib.hid fun w => refSize_any b w (by omega) (by omega)
  unfold Tab.divS at h
  rw [if_neg hb0] at h
  obtain ⟨d, hd⟩ : ∃ d, b.natAbs = d := ⟨_, rfl⟩
  have hd0 : 0 < d := by omega
  have hd1 : d ≤ 999999999999999999 := by omega
  obtain ⟨s, s1, s2, s3, hs⟩ := digits_of a.natAbs (by omega)
  have HS := Lib.hid hs
  obtain ⟨z, hz⟩ : ∃ z : ByteArray, s ++ ⟨#[48, 48, 48, 48]⟩ = z := ⟨_, rfl⟩
  have hzl : z.data.toList = decDigits a.natAbs ++ [48, 48, 48, 48] := by rw [← hz, ByteArray.data_append, Array.toList_append, s1]
  have hdz : Tab.Dig z.data.toList := by rw [hzl]; exact (Tab.dig_dec _).append (Tab.dig_zeros 4)
  have hvz : Tab.val z.data.toList = a.natAbs * 10000 := by
    rw [hzl, Tab.val_append, Tab.val_dec]; rfl
  have hzs : z.size = s.size + 4 := by rw [← hz, ByteArray.size_append]; rfl
  obtain ⟨m, hm⟩ : ∃ m, (!decide (a < 0) == decide (b < 0)) = m := ⟨_, rfl⟩
  rw [hm, hd] at h
  rw [hd] at HB
  have H : Hid (∀ (l : List UInt8) (r : Nat), Tab.Dig l → r < d → a.natAbs * 10000 = Tab.val l * d + r → Tab.valueR m (Tab.strip (if d - r ≤ r then Tab.inc l else l)) = (n, ok)) := Lib.hid fun l r hl hr hv => by
    rw [Tab.digits_div m hl _ d r hr hv]
    exact h
  have HVZ := Lib.hid hvz
  have HDZ := Lib.hid hdz
  have hzl' : z.size ≤ 23 := by omega
  have hzi : (z.size : Int) = (s.size : Int) + 4 := by omega
  have hcv := conv_bytes
  clear h hs s1 hzl hvz hdz hzs ha hb hd
  generalize (a.natAbs : Int) = x at *
  go_enter Tryz.func99, Tryz.ntmps99
  go_wp2_with (first | (go_at_call_of 64 (Value.int IntKind.i64 a); refine (HA.out _).mono ?_; rintro e w' ⟨rfl, rfl⟩) | (go_at_call_of 64 (Value.int IntKind.i64 b); refine (HB.out _).mono ?_; rintro e w' ⟨rfl, rfl⟩) | (go_at_call 129; fail))
  go_at_call 129
  refine (HS.out _).mono ?_
  rintro e w1 ⟨rfl, hb1⟩
  go_wp2
  clear hcv
  have hI0 := bytesAt_conv w1 z
  have hbel : Below w1.heap.size w1 (bytesWorld w1 5 z) := ⟨rfl, rfl, rfl, by rw [bytesWorld_size]; exact Nat.le_succ _, fun i hi => bytesWorld_at_old _ _ _ i hi⟩
  have hB0 := hb1.trans (hbel.mono hb1.size)
  have hBs : w1.heap.size < (bytesWorld w1 5 z).heap.size := by rw [bytesWorld_size]; omega
  have hBlo := hb1.size
  generalize grownCap w1 z.size 0 5 = cap at *
  generalize bytesWorld w1 5 z = W2 at *
  clear hb1 hbel
  generalize w1.heap.size = B at *
  have HBS := Lib.hid hBs
  clear hBs
  go_loopw [7, 8, 20] (fun vr vt vk wr => ∃ (k r : Nat) (t : ByteArray), vr = .int .u64 r ∧ vt = .string t ∧ vk = .int .i64 k ∧ k ≤ z.size ∧ r < d ∧ t.size ≤ k ∧ Hid (Tab.Dig t.data.toList) ∧ Hid (Tab.val (z.data.toList.take k) = Tab.val t.data.toList * d + r) ∧ BytesAt wr B z.data.toList ∧ Hid (B < wr.heap.size) ∧ Below w.heap.size w wr) (fun _ _ vk _ => z.size - (RowKit.intOf vk).toNat)
  case atStart => exact ⟨0, 0, ⟨#[]⟩, rfl, rfl, rfl, Nat.zero_le _, hd0, Nat.le_refl _, Lib.hid (fun c hc => by cases hc), Lib.hid (by simp [Tab.val_nil]), hI0, HBS, hB0⟩
  case round =>
    obtain ⟨k, r, t, rfl, rfl, rfl, hk, hr, htk, htd, hinv, hI, hbs, hB⟩ := hrel
    clear hI0 hB0 HBS
    by_cases hkz : k < z.size
    · have hkl : k < z.data.toList.length := by rw [← size_eq]; exact hkz
      obtain ⟨hc, _⟩ := hI k hkl
      obtain ⟨c, hcc⟩ : ∃ c, z.data.toList.getD k 0 = c := ⟨_, rfl⟩
      rw [hcc] at hc
      have hc2 : z.data.toList[k]'hkl = c := by rw [← hcc, List.getD_eq_getElem?_getD, List.getElem?_eq_getElem hkl]; rfl
      have hcd : 48 ≤ c.toNat ∧ c.toNat ≤ 57 := by rw [← hc2]; exact HDZ.out _ (List.getElem_mem hkl)
      have htake : Tab.val (z.data.toList.take (k + 1)) = 10 * Tab.val (z.data.toList.take k) + (c.toNat - 48) := by
        rw [List.take_succ_eq_append_getElem hkl, Tab.val_snoc, hc2]
      have HTK := Lib.hid htake
      obtain ⟨c1, c2⟩ := hcd
      have hki : (k : Int) < (s.size : Int) + 4 := by omega
      have c3 : 48 ≤ (c.toNat : Int) := by omega
      have c4 : (c.toNat : Int) ≤ 57 := by omega
      clear htake hc2 hcc
      go_wp2
      go_loop [7, 11] (fun vr vq => ∃ q y : Nat, vr = .int .u64 y ∧ vq = .int .u64 q ∧ y ≤ 10 * r + 9 ∧ q ≤ 10 ∧ Hid (10 * r + (c.toNat - 48) = q * d + y)) (fun vr _ => (RowKit.intOf vr).toNat)
      case atStart => exact ⟨0, 10 * r + (c.toNat - 48), by go_num, rfl, by omega, by omega, Lib.hid (by omega)⟩
      case round =>
        obtain ⟨q, y, rfl, rfl, hy, hq, hqy⟩ := hrel
        have hq9 : q ≤ 9 ∨ y < d := by
          by_cases h9 : q ≤ 9
          · exact .inl h9
          · obtain rfl : q = 10 := by omega
            have := hqy.out
            exact .inr (by omega)
        have hq9' : q ≤ 9 := by
          by_cases h9 : q ≤ 9
          · exact h9
          · obtain rfl : q = 10 := by omega
            have := hqy.out
            omega
        clear hq9
        by_cases hyd : d ≤ y
        · have HQ : Hid (10 * r + (c.toNat - 48) = (q + 1) * d + (y - d)) := Lib.hid (by have := hqy.out; rw [Nat.add_mul]; omega)
          go_wp2
          go_round
          case rel => exact ⟨q + 1, y - d, by go_num, by go_num, by omega, by omega, HQ⟩
          case measure => simp [RowKit.intOf]; omega
        · have hyd' : ¬ (d : Int) ≤ y := by omega
          have hcb : (48 : Int) + (q : Int) = ((UInt8.ofNat (48 + q)).toNat : Int) := by rw [Tab.dig_byte _ (by omega)]; omega
          have hcvo := fun W T => conv_one W T _ _ hcb
          have hqd : 48 ≤ (UInt8.ofNat (48 + q)).toNat ∧ (UInt8.ofNat (48 + q)).toNat ≤ 57 := by rw [Tab.dig_byte _ (by omega)]; omega
          have hqv : (UInt8.ofNat (48 + q)).toNat - 48 = q := by rw [Tab.dig_byte _ (by omega)]; omega
          generalize UInt8.ofNat (48 + q) = cq at *
          have HD2 : Hid (Tab.Dig (t ++ ⟨#[cq]⟩ : ByteArray).data.toList) := Lib.hid (by
            rw [ByteArray.data_append, Array.toList_append]
            exact htd.out.append fun x hx => by
              obtain rfl : x = cq := by simpa using hx
              exact hqd)
          have HI2 : Hid (Tab.val (z.data.toList.take (k + 1)) = Tab.val (t ++ ⟨#[cq]⟩ : ByteArray).data.toList * d + y) := Lib.hid (by
            rw [HTK.out, hinv.out, ByteArray.data_append, Array.toList_append]
            show _ = Tab.val (t.data.toList ++ [cq]) * d + y
            rw [Tab.val_snoc, hqv, Nat.add_mul, Nat.mul_assoc]
            have := hqy.out
            omega)
          have hal : ∀ ob : Obj, Below w.heap.size w (wr.alloc ob) := fun ob => hB.alloc hB.size ob
          have hil : ∀ ob : Obj, BytesAt (wr.alloc ob) B z.data.toList := fun ob j hj => by
            have hbb : Below wr.heap.size wr (wr.alloc ob) := (Below.refl _ _).alloc (Nat.le_refl _) ob
            exact ⟨(hbb.cell hbs.out).trans (hI j hj).1, (hbb.frozen hbs.out).trans (hI j hj).2⟩
          have HAL := Lib.hid hal
          have HIL := Lib.hid hil
          clear hcb hqd hqv hal hil hI hB hqy hyd
          go_wp2
          go_roundw
          case rel => exact ⟨k + 1, y, t ++ ⟨#[cq]⟩, rfl, rfl, by go_num, by omega, by omega, by rw [ByteArray.size_append]; show t.size + 1 ≤ _; omega, HD2, HI2, HIL.out _, Lib.hid (by have := hbs.out; simp; omega), HAL.out _⟩
          case measure => simp [RowKit.intOf]; omega
    · obtain rfl : k = z.size := by omega
      have hki : ¬ (z.size : Int) < (s.size : Int) + 4 := by omega
      have hfin := hinv.out
      rw [List.take_of_length_le (by rw [← size_eq]; exact Nat.le_refl _), HVZ.out] at hfin
      have hV := H.out t.data.toList r htd.out hr hfin
      have hts := size_eq t
      obtain ⟨i1, i2⟩ := Tab.inc_val htd.out
      have hil := Tab.inc_len t.data.toList
      clear hinv hfin
      by_cases hc : d - r ≤ r
      · rw [if_pos hc] at hV
        have hci : (d : Int) - r ≤ r := by omega
        have hsl := strip_len (Tab.inc t.data.toList)
        have HIn : Hid (∀ w, Calls Tryz.prog 143 #[.string t] w fun e w' => e = .returned (.string ⟨(Tab.inc t.data.toList).toArray⟩) ∧ Below w.heap.size w w') := Lib.hid fun w => inc_any t w (by omega)
        have HSt : Hid (∀ w, Calls Tryz.prog 132 #[.string ⟨(Tab.inc t.data.toList).toArray⟩] w fun e w' => e = .returned (.string ⟨(Tab.strip (Tab.inc t.data.toList)).toArray⟩) ∧ w = w') := Lib.hid fun w => strip_any ⟨(Tab.inc t.data.toList).toArray⟩ w
        have HVa := Lib.hid fun w => value_is m ⟨(Tab.strip (Tab.inc t.data.toList)).toArray⟩ n ok w (by rw [size_eq]; show (Tab.strip (Tab.inc t.data.toList)).length ≤ _; omega) (Tab.dig_strip i1) hV
        clear hsl hil i1 i2 hts hV hc
        generalize (⟨(Tab.strip (Tab.inc t.data.toList)).toArray⟩ : ByteArray) = z5 at *
        generalize (⟨(Tab.inc t.data.toList).toArray⟩ : ByteArray) = z4 at *
        go_wp2_with (first | (go_at_call 143; fail))
        go_at_call 143
        refine (HIn.out _).mono ?_
        rintro e w4 ⟨rfl, hb4⟩
        have hb14 := hB.trans (hb4.mono hB.size)
        go_wp2_with (first | (go_at_call 132; refine (HSt.out _).mono ?_; rintro e w' ⟨rfl, rfl⟩) | (go_at_call 130; refine (HVa.out _).mono ?_; rintro e w' ⟨rfl, rfl⟩))
        go_ret2
        exact ⟨rfl, hb14⟩
      · rw [if_neg hc] at hV
        have hci : ¬ (d : Int) - r ≤ r := by omega
        have hsl := strip_len t.data.toList
        have HSt : Hid (∀ w, Calls Tryz.prog 132 #[.string t] w fun e w' => e = .returned (.string ⟨(Tab.strip t.data.toList).toArray⟩) ∧ w = w') := Lib.hid fun w => strip_any t w
        have HVa := Lib.hid fun w => value_is m ⟨(Tab.strip t.data.toList).toArray⟩ n ok w (by rw [size_eq]; show (Tab.strip t.data.toList).length ≤ _; omega) (Tab.dig_strip htd.out) hV
        clear hsl hil i1 i2 hts hV hc
        generalize (⟨(Tab.strip t.data.toList).toArray⟩ : ByteArray) = z5 at *
        go_wp2_with (first | (go_at_call 132; refine (HSt.out _).mono ?_; rintro e w' ⟨rfl, rfl⟩) | (go_at_call 130; refine (HVa.out _).mono ?_; rintro e w' ⟨rfl, rfl⟩))
        go_ret2
        exact ⟨rfl, hB⟩
end Go.Proofs.YtkobkeopajohiaaGreatDoor
