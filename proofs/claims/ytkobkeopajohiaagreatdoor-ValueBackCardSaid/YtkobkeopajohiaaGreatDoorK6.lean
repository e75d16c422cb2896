/-
  CONTRACT of value.Get, at the bytes of a value.
-/
import Derived.Test.YtkobkeopajohiaaGreatDoorK5
import Derived.Test.YtkobkeopajohiaaGreatDoorK3
import Derived.Test.YtkobkeopajohiaaGreatDoorE2
import Derived.Deep.RegionHeld3
namespace Go.Proofs.YtkobkeopajohiaaGreatDoor
open Go.RowKit Go.Lib

/-- a value that plain data can have -/
def V.ok : V → Prop | .num n => -999999999999999999 ≤ n ∧ n ≤ 999999999999999999 | .fail n => 1 ≤ n ∧ n ≤ 7 | .text s => signsOk s = true ∧ s.size ≤ 2000 | _ => True
theorem of_ok (p : P) : p.of.ok := by
  obtain ⟨k, n, s⟩ := p
  unfold P.of
  repeat' split
  all_goals first | exact trivial | assumption
def V.plainP : V → P | .num n => ⟨1, n, ByteArray.empty⟩ | .text s => ⟨2, 0, s⟩ | .bool b => ⟨3, if b then 1 else 0, ByteArray.empty⟩ | .fail n => ⟨4, n, ByteArray.empty⟩ | .blank => ⟨0, 0, ByteArray.empty⟩
theorem tell_plain (v : V) : v.tell = v.plainP.val := by cases v <;> rfl
theorem of_plain (v : V) (h : v.ok) : v.plainP.of = v := by
  cases v with
  | num n => exact if_pos h
  | text s => exact if_pos h
  | bool b => cases b <;> rfl
  | fail n => exact if_pos h
  | blank => rfl
theorem Rd.keep {w : World} {r : Nat} {s : ByteArray} {p : Nat} (h : Rd w r s p) (a : Addr) (ha : a.block ≠ r) (v : Value) : Rd (w.setCell a v) r s p := by
  have e : ∀ j, (w.setCell a v).cell? ⟨r, j, none⟩ = w.cell? ⟨r, j, none⟩ := fun j => World.cell?_setCell_other _ _ _ _ (by intro e; exact ha (congrArg Addr.block e))
  exact ⟨by simpa [World.setCell] using h.lt, (e 0).trans h.c0, (e 1).trans h.c1, (e 2).trans h.c2, by rw [World.frozen?_setCell]; exact h.fz⟩
theorem Rd.below {w w' : World} {r : Nat} {s : ByteArray} {p : Nat} (h : Rd w r s p) (hb : Below w.heap.size w w') : Rd w' r s p :=
  ⟨Nat.lt_of_lt_of_le h.lt hb.size, (hb.cell h.lt).trans h.c0, (hb.cell h.lt).trans h.c1, (hb.cell h.lt).trans h.c2, (hb.frozen h.lt).trans h.fz⟩
theorem KeptR.cell {r : Nat} {w w' : World} (h : KeptR r w w') {k j : Nat} (hk : k ≠ r) : w'.cell? ⟨k, j, none⟩ = w.cell? ⟨k, j, none⟩ := World.cell?_of_block (w := w) (h.2.2 k hk)
theorem KeptR.frozen {r : Nat} {w w' : World} (h : KeptR r w w') {k j : Nat} (hk : k ≠ r) : w'.frozen? ⟨k, j, none⟩ = w.frozen? ⟨k, j, none⟩ := World.frozen?_of_block (w := w) (h.2.2 k hk)

theorem Rd.ne {w : World} {r : Nat} {s : ByteArray} {p : Nat} (h : Rd w r s p) : w.heap.size ≠ r := by have := h.lt; omega
/-- what the one region of Get reads -/
abbrev GetS (w4 : World) (p : Nat) (k n : Int) (s : ByteArray) (w' : World) : Prop :=
  w'.cell? ⟨p, 0, none⟩ = some (.int .i64 k) ∧ w'.cell? ⟨p, 1, none⟩ = some (.int .i64 n) ∧ w'.cell? ⟨p, 2, none⟩ = some (.string s) ∧ Hid (p < w4.heap.size) ∧ Hid (Below w4.heap.size w4 w')
theorem GetS.below {w4 : World} {p : Nat} {k n : Int} {s : ByteArray} {w1 w2 : World} (hS : GetS w4 p k n s w1) (hb : Below w1.heap.size w1 w2) : GetS w4 p k n s w2 := by
  obtain ⟨h0, h1, h2, h3, h4⟩ := hS
  have hl : p < w1.heap.size := Nat.lt_of_lt_of_le h3.out h4.out.size
  exact ⟨(hb.cell hl).trans h0, (hb.cell hl).trans h1, (hb.cell hl).trans h2, h3, Lib.hid (h4.out.trans (hb.mono h4.out.size))⟩
theorem GetS.drew {w4 : World} {p : Nat} {k n : Int} {s : ByteArray} {w1 : World} (hS : GetS w4 p k n s w1) : GetS w4 p k n s w1.drew := hS.below ((Below.refl _ _).drew)
set_option maxHeartbeats 3200000 in
set_option maxRecDepth 100000 in
theorem get_num (v : V) (n : Int) (hn : -1000000000000000000 ≤ n ∧ n ≤ 1000000000000000000) (hok : v.ok) (hv : v.plainP = ⟨1, n, ByteArray.empty⟩) (r : Nat) (s : ByteArray) (hs : s.size ≤ 1000000) (hd : s.data.toList = vint 1 ++ vint (fold n))
    (w : World) (hw : Rd w r s 0) (hU : Lib.Utf8Tabs 4 5 w) (h5 : 5 < r) :
    Calls Tryz.prog 33 #[.pointer (some ⟨r, 0, none⟩)] w fun e w' => e = .returned (.tuple #[v.val, .int .i64 0]) ∧ Rd w' r s s.size ∧ Below r w w' := by
  have HQ := Lib.hid (rUint 1 (by decide) r s 0 (vint (fold n)) hs (by simpa using hd) w hw)
  have HI := Lib.hid fun w hw => rInt n hn r s 1 [] hs (by rw [hd, vint_lo 1 (by decide)]; simp) w hw
  have HOf := Lib.hid fun w hT h7 => of_any v.plainP w hT h7 (by rw [hv]; show (0 : Nat) < _; decide)
  rw [of_plain v hok, hv] at HOf
  have HT := Lib.hid fun w => tell_any v w
  rw [tell_plain, hv] at HT
  have hsz : 1 + (vint (fold n)).length = s.size := by rw [size_eq, hd, List.length_append, vint_lo 1 (by decide)]; rfl
  simp only [P.val] at HOf HT
  rw [V.val_eq] at HOf HT ⊢
  have HU := Lib.hid hU
  have HSZ := Lib.hid hsz
  clear hok hv hd hU hw hsz
  generalize v.ty = t at *
  generalize v.raw = x at *
  have hmin : min (1 : Int) 9 = 1 := by decide
  go_enter Tryz.func33, Tryz.ntmps33
  go_wp2_with (first | (go_at_call 106; fail))
  go_at_call 106
  refine HQ.out.mono ?_
  rintro e w1 ⟨rfl, hr1, hk1⟩
  rw [vint_lo 1 (by decide)] at hr1
  have hne := hr1.ne
  have HR1 := Lib.hid hr1
  have HK1 := Lib.hid hk1
  clear hr1 hk1
  go_wp2_with (first | (go_at_call 107; fail))
  have hP : Below w1.heap.size w1 (w1.alloc (.cells #[.int .i64 1, .int .i64 0, .string { data := #[] }] 41)) := (Below.refl _ _).alloc (Nat.le_refl _) _
  have hPs : Hid ((w1.alloc (.cells #[.int .i64 1, .int .i64 0, .string { data := #[] }] 41)).heap.size = w1.heap.size + 1) := Lib.hid (by simp)
  have hPc : Hid (∀ j, (w1.alloc (.cells #[.int .i64 1, .int .i64 0, .string { data := #[] }] 41)).cell? ⟨w1.heap.size, j, none⟩ = (#[Value.int .i64 1, .int .i64 0, .string { data := #[] }])[j]?) := Lib.hid fun j => by rw [World.cell?_alloc_at _ _ _ _ rfl]
  have hPf : Hid (∀ j, (w1.alloc (.cells #[.int .i64 1, .int .i64 0, .string { data := #[] }] 41)).frozen? ⟨w1.heap.size, j, none⟩ = false) := Lib.hid fun j => by simp
  generalize w1.alloc (.cells #[.int .i64 1, .int .i64 0, .string { data := #[] }] 41) = P at *
  go_at_call 107
  refine (HI.out P (HR1.out.below hP)).mono ?_
  rintro e w2 ⟨rfl, hr2, hk2⟩
  rw [HSZ.out] at hr2
  have p0 := (hk2.cell (k := w1.heap.size) (j := 0) hne).trans (hPc.out 0)
  have p1 := (hk2.cell (k := w1.heap.size) (j := 1) hne).trans (hPc.out 1)
  have p2 := (hk2.cell (k := w1.heap.size) (j := 2) hne).trans (hPc.out 2)
  have f1 := (hk2.frozen (k := w1.heap.size) (j := 1) hne).trans (hPf.out 1)
  simp only [List.getElem?_toArray, List.getElem?_cons_zero, List.getElem?_cons_succ] at p0 p1 p2
  have e0 : (w2.setCell ⟨w1.heap.size, 1, none⟩ (.int .i64 n)).cell? ⟨w1.heap.size, 0, none⟩ = some (.int .i64 1) := (World.cell?_setCell_other _ _ _ _ (by simp)).trans p0
  have e1 : (w2.setCell ⟨w1.heap.size, 1, none⟩ (.int .i64 n)).cell? ⟨w1.heap.size, 1, none⟩ = some (.int .i64 n) := World.cell?_setCell_same _ _ _ p1
  have e2 : (w2.setCell ⟨w1.heap.size, 1, none⟩ (.int .i64 n)).cell? ⟨w1.heap.size, 2, none⟩ = some (.string ByteArray.empty) := (World.cell?_setCell_other _ _ _ _ (by simp)).trans p2
  have HR3 := Lib.hid (hr2.keep ⟨w1.heap.size, 1, none⟩ hne (.int .i64 n))
  have hlr := HR1.out.lt
  have HB3 : Hid (Below r w (w2.setCell ⟨w1.heap.size, 1, none⟩ (.int .i64 n))) := Lib.hid (((HK1.out.1.trans (hP.mono (Nat.le_of_lt hlr))).trans hk2.1).setCell (p := ⟨w1.heap.size, 1, none⟩) (Nat.le_of_lt hlr) _)
  have hl3 : Hid (w1.heap.size < (w2.setCell ⟨w1.heap.size, 1, none⟩ (.int .i64 n)).heap.size) := Lib.hid (by
    have h2 := hk2.2.1
    rw [hPs.out] at h2
    simp [World.setCell]; omega)
  clear hr2 hk2 hP hPs hPc hPf HR1 HK1 p2 p0
  go_wp2_with (first | (go_at_call 109; fail))
  clear p1 f1
  generalize w2.setCell ⟨w1.heap.size, 1, none⟩ (.int .i64 n) = w3 at *
  go_at_call 109
  refine (rErr r s _ _ HR3.out).mono ?_
  rintro e w' ⟨rfl, rfl⟩
  go_wp2_with (first | (go_at_call 60; fail))
  have hT3 := tabs_below HU.out HB3.out h5
  have h63 : 5 < w3.heap.size := by have := hl3.out; omega
  go_at_call 60
  refine (HOf.out w3 hT3 h63).mono ?_
  rintro e w4 ⟨rfl, hb4⟩
  have hS4 : GetS w4 w1.heap.size 1 n ByteArray.empty w4 := ⟨(hb4.cell hl3.out).trans e0, (hb4.cell hl3.out).trans e1, (hb4.cell hl3.out).trans e2, Lib.hid (Nat.lt_of_lt_of_le hl3.out hb4.size), Lib.hid (Below.refl _ _)⟩
  have HR4 := Lib.hid (HR3.out.below hb4)
  have hr3s : r ≤ w3.heap.size := Nat.le_of_lt HR3.out.lt
  have HB4 := Lib.hid (HB3.out.trans (hb4.mono hr3s))
  clear hb4 e0 e1 e2 hT3 h63 HR3 HB3
  go_wp2
  go_region_held3 (fun w' => w'.cell? ⟨w1.heap.size, 0, none⟩ = some (.int .i64 1) ∧ w'.cell? ⟨w1.heap.size, 1, none⟩ = some (.int .i64 n) ∧ w'.cell? ⟨w1.heap.size, 2, none⟩ = some (.string ByteArray.empty) ∧ Hid (w1.heap.size < w4.heap.size) ∧ Hid (Below w4.heap.size w4 w'))
    (first | exact GetS.drew ‹GetS w4 w1.heap.size 1 n ByteArray.empty _› | exact GetS.below ‹GetS w4 w1.heap.size 1 n ByteArray.empty _› ‹Below _ _ _›)
    (first | (go_at_call 37; refine (HT.out _).mono ?_; rintro e w5 ⟨rfl, hb5⟩))
  all_goals
    rename_i hS5
    have HB5 := hS5.2.2.2.2.out
    go_wp2
    go_ret2
    exact ⟨rfl, HR4.out.below HB5, HB4.out.trans (HB5.mono (Nat.le_of_lt HR4.out.lt))⟩
set_option maxHeartbeats 3200000 in
set_option maxRecDepth 100000 in
theorem get_bool (v : V) (n : Int) (hn : -1000000000000000000 ≤ n ∧ n ≤ 1000000000000000000) (hok : v.ok) (hv : v.plainP = ⟨3, n, ByteArray.empty⟩) (r : Nat) (s : ByteArray) (hs : s.size ≤ 1000000) (hd : s.data.toList = vint 3 ++ vint (fold n))
    (w : World) (hw : Rd w r s 0) (hU : Lib.Utf8Tabs 4 5 w) (h5 : 5 < r) :
    Calls Tryz.prog 33 #[.pointer (some ⟨r, 0, none⟩)] w fun e w' => e = .returned (.tuple #[v.val, .int .i64 0]) ∧ Rd w' r s s.size ∧ Below r w w' := by
  have HQ := Lib.hid (rUint 3 (by decide) r s 0 (vint (fold n)) hs (by simpa using hd) w hw)
  have HI := Lib.hid fun w hw => rInt n hn r s 1 [] hs (by rw [hd, vint_lo 3 (by decide)]; simp) w hw
  have HOf := Lib.hid fun w hT h7 => of_any v.plainP w hT h7 (by rw [hv]; show (0 : Nat) < _; decide)
  rw [of_plain v hok, hv] at HOf
  have HT := Lib.hid fun w => tell_any v w
  rw [tell_plain, hv] at HT
  have hsz : 1 + (vint (fold n)).length = s.size := by rw [size_eq, hd, List.length_append, vint_lo 3 (by decide)]; rfl
  simp only [P.val] at HOf HT
  rw [V.val_eq] at HOf HT ⊢
  have HU := Lib.hid hU
  have HSZ := Lib.hid hsz
  clear hok hv hd hU hw hsz
  generalize v.ty = t at *
  generalize v.raw = x at *
  have hmin : min (3 : Int) 9 = 3 := by decide
  go_enter Tryz.func33, Tryz.ntmps33
  go_wp2_with (first | (go_at_call 106; fail))
  go_at_call 106
  refine HQ.out.mono ?_
  rintro e w1 ⟨rfl, hr1, hk1⟩
  rw [vint_lo 3 (by decide)] at hr1
  have hne := hr1.ne
  have HR1 := Lib.hid hr1
  have HK1 := Lib.hid hk1
  clear hr1 hk1
  go_wp2_with (first | (go_at_call 107; fail))
  have hP : Below w1.heap.size w1 (w1.alloc (.cells #[.int .i64 3, .int .i64 0, .string { data := #[] }] 41)) := (Below.refl _ _).alloc (Nat.le_refl _) _
  have hPs : Hid ((w1.alloc (.cells #[.int .i64 3, .int .i64 0, .string { data := #[] }] 41)).heap.size = w1.heap.size + 1) := Lib.hid (by simp)
  have hPc : Hid (∀ j, (w1.alloc (.cells #[.int .i64 3, .int .i64 0, .string { data := #[] }] 41)).cell? ⟨w1.heap.size, j, none⟩ = (#[Value.int .i64 3, .int .i64 0, .string { data := #[] }])[j]?) := Lib.hid fun j => by rw [World.cell?_alloc_at _ _ _ _ rfl]
  have hPf : Hid (∀ j, (w1.alloc (.cells #[.int .i64 3, .int .i64 0, .string { data := #[] }] 41)).frozen? ⟨w1.heap.size, j, none⟩ = false) := Lib.hid fun j => by simp
  generalize w1.alloc (.cells #[.int .i64 3, .int .i64 0, .string { data := #[] }] 41) = P at *
  go_at_call 107
  refine (HI.out P (HR1.out.below hP)).mono ?_
  rintro e w2 ⟨rfl, hr2, hk2⟩
  rw [HSZ.out] at hr2
  have p0 := (hk2.cell (k := w1.heap.size) (j := 0) hne).trans (hPc.out 0)
  have p1 := (hk2.cell (k := w1.heap.size) (j := 1) hne).trans (hPc.out 1)
  have p2 := (hk2.cell (k := w1.heap.size) (j := 2) hne).trans (hPc.out 2)
  have f1 := (hk2.frozen (k := w1.heap.size) (j := 1) hne).trans (hPf.out 1)
  simp only [List.getElem?_toArray, List.getElem?_cons_zero, List.getElem?_cons_succ] at p0 p1 p2
  have e0 : (w2.setCell ⟨w1.heap.size, 1, none⟩ (.int .i64 n)).cell? ⟨w1.heap.size, 0, none⟩ = some (.int .i64 3) := (World.cell?_setCell_other _ _ _ _ (by simp)).trans p0
  have e1 : (w2.setCell ⟨w1.heap.size, 1, none⟩ (.int .i64 n)).cell? ⟨w1.heap.size, 1, none⟩ = some (.int .i64 n) := World.cell?_setCell_same _ _ _ p1
  have e2 : (w2.setCell ⟨w1.heap.size, 1, none⟩ (.int .i64 n)).cell? ⟨w1.heap.size, 2, none⟩ = some (.string ByteArray.empty) := (World.cell?_setCell_other _ _ _ _ (by simp)).trans p2
  have HR3 := Lib.hid (hr2.keep ⟨w1.heap.size, 1, none⟩ hne (.int .i64 n))
  have hlr := HR1.out.lt
  have HB3 : Hid (Below r w (w2.setCell ⟨w1.heap.size, 1, none⟩ (.int .i64 n))) := Lib.hid (((HK1.out.1.trans (hP.mono (Nat.le_of_lt hlr))).trans hk2.1).setCell (p := ⟨w1.heap.size, 1, none⟩) (Nat.le_of_lt hlr) _)
  have hl3 : Hid (w1.heap.size < (w2.setCell ⟨w1.heap.size, 1, none⟩ (.int .i64 n)).heap.size) := Lib.hid (by
    have h2 := hk2.2.1
    rw [hPs.out] at h2
    simp [World.setCell]; omega)
  clear hr2 hk2 hP hPs hPc hPf HR1 HK1 p2 p0
  go_wp2_with (first | (go_at_call 109; fail))
  clear p1 f1
  generalize w2.setCell ⟨w1.heap.size, 1, none⟩ (.int .i64 n) = w3 at *
  go_at_call 109
  refine (rErr r s _ _ HR3.out).mono ?_
  rintro e w' ⟨rfl, rfl⟩
  go_wp2_with (first | (go_at_call 60; fail))
  have hT3 := tabs_below HU.out HB3.out h5
  have h63 : 5 < w3.heap.size := by have := hl3.out; omega
  go_at_call 60
  refine (HOf.out w3 hT3 h63).mono ?_
  rintro e w4 ⟨rfl, hb4⟩
  have hS4 : GetS w4 w1.heap.size 3 n ByteArray.empty w4 := ⟨(hb4.cell hl3.out).trans e0, (hb4.cell hl3.out).trans e1, (hb4.cell hl3.out).trans e2, Lib.hid (Nat.lt_of_lt_of_le hl3.out hb4.size), Lib.hid (Below.refl _ _)⟩
  have HR4 := Lib.hid (HR3.out.below hb4)
  have hr3s : r ≤ w3.heap.size := Nat.le_of_lt HR3.out.lt
  have HB4 := Lib.hid (HB3.out.trans (hb4.mono hr3s))
  clear hb4 e0 e1 e2 hT3 h63 HR3 HB3
  go_wp2
  go_region_held3 (fun w' => w'.cell? ⟨w1.heap.size, 0, none⟩ = some (.int .i64 3) ∧ w'.cell? ⟨w1.heap.size, 1, none⟩ = some (.int .i64 n) ∧ w'.cell? ⟨w1.heap.size, 2, none⟩ = some (.string ByteArray.empty) ∧ Hid (w1.heap.size < w4.heap.size) ∧ Hid (Below w4.heap.size w4 w'))
    (first | exact GetS.drew ‹GetS w4 w1.heap.size 3 n ByteArray.empty _› | exact GetS.below ‹GetS w4 w1.heap.size 3 n ByteArray.empty _› ‹Below _ _ _›)
    (first | (go_at_call 37; refine (HT.out _).mono ?_; rintro e w5 ⟨rfl, hb5⟩))
  all_goals
    rename_i hS5
    have HB5 := hS5.2.2.2.2.out
    go_wp2
    go_ret2
    exact ⟨rfl, HR4.out.below HB5, HB4.out.trans (HB5.mono (Nat.le_of_lt HR4.out.lt))⟩
set_option maxHeartbeats 3200000 in
set_option maxRecDepth 100000 in
theorem get_fail (v : V) (n : Int) (hn : -1000000000000000000 ≤ n ∧ n ≤ 1000000000000000000) (hok : v.ok) (hv : v.plainP = ⟨4, n, ByteArray.empty⟩) (r : Nat) (s : ByteArray) (hs : s.size ≤ 1000000) (hd : s.data.toList = vint 4 ++ vint (fold n))
    (w : World) (hw : Rd w r s 0) (hU : Lib.Utf8Tabs 4 5 w) (h5 : 5 < r) :
    Calls Tryz.prog 33 #[.pointer (some ⟨r, 0, none⟩)] w fun e w' => e = .returned (.tuple #[v.val, .int .i64 0]) ∧ Rd w' r s s.size ∧ Below r w w' := by
  have HQ := Lib.hid (rUint 4 (by decide) r s 0 (vint (fold n)) hs (by simpa using hd) w hw)
  have HI := Lib.hid fun w hw => rInt n hn r s 1 [] hs (by rw [hd, vint_lo 4 (by decide)]; simp) w hw
  have HOf := Lib.hid fun w hT h7 => of_any v.plainP w hT h7 (by rw [hv]; show (0 : Nat) < _; decide)
  rw [of_plain v hok, hv] at HOf
  have HT := Lib.hid fun w => tell_any v w
  rw [tell_plain, hv] at HT
  have hsz : 1 + (vint (fold n)).length = s.size := by rw [size_eq, hd, List.length_append, vint_lo 4 (by decide)]; rfl
  simp only [P.val] at HOf HT
  rw [V.val_eq] at HOf HT ⊢
  have HU := Lib.hid hU
  have HSZ := Lib.hid hsz
  clear hok hv hd hU hw hsz
  generalize v.ty = t at *
  generalize v.raw = x at *
  have hmin : min (4 : Int) 9 = 4 := by decide
  go_enter Tryz.func33, Tryz.ntmps33
  go_wp2_with (first | (go_at_call 106; fail))
  go_at_call 106
  refine HQ.out.mono ?_
  rintro e w1 ⟨rfl, hr1, hk1⟩
  rw [vint_lo 4 (by decide)] at hr1
  have hne := hr1.ne
  have HR1 := Lib.hid hr1
  have HK1 := Lib.hid hk1
  clear hr1 hk1
  go_wp2_with (first | (go_at_call 107; fail))
  have hP : Below w1.heap.size w1 (w1.alloc (.cells #[.int .i64 4, .int .i64 0, .string { data := #[] }] 41)) := (Below.refl _ _).alloc (Nat.le_refl _) _
  have hPs : Hid ((w1.alloc (.cells #[.int .i64 4, .int .i64 0, .string { data := #[] }] 41)).heap.size = w1.heap.size + 1) := Lib.hid (by simp)
  have hPc : Hid (∀ j, (w1.alloc (.cells #[.int .i64 4, .int .i64 0, .string { data := #[] }] 41)).cell? ⟨w1.heap.size, j, none⟩ = (#[Value.int .i64 4, .int .i64 0, .string { data := #[] }])[j]?) := Lib.hid fun j => by rw [World.cell?_alloc_at _ _ _ _ rfl]
  have hPf : Hid (∀ j, (w1.alloc (.cells #[.int .i64 4, .int .i64 0, .string { data := #[] }] 41)).frozen? ⟨w1.heap.size, j, none⟩ = false) := Lib.hid fun j => by simp
  generalize w1.alloc (.cells #[.int .i64 4, .int .i64 0, .string { data := #[] }] 41) = P at *
  go_at_call 107
  refine (HI.out P (HR1.out.below hP)).mono ?_
  rintro e w2 ⟨rfl, hr2, hk2⟩
  rw [HSZ.out] at hr2
  have p0 := (hk2.cell (k := w1.heap.size) (j := 0) hne).trans (hPc.out 0)
  have p1 := (hk2.cell (k := w1.heap.size) (j := 1) hne).trans (hPc.out 1)
  have p2 := (hk2.cell (k := w1.heap.size) (j := 2) hne).trans (hPc.out 2)
  have f1 := (hk2.frozen (k := w1.heap.size) (j := 1) hne).trans (hPf.out 1)
  simp only [List.getElem?_toArray, List.getElem?_cons_zero, List.getElem?_cons_succ] at p0 p1 p2
  have e0 : (w2.setCell ⟨w1.heap.size, 1, none⟩ (.int .i64 n)).cell? ⟨w1.heap.size, 0, none⟩ = some (.int .i64 4) := (World.cell?_setCell_other _ _ _ _ (by simp)).trans p0
  have e1 : (w2.setCell ⟨w1.heap.size, 1, none⟩ (.int .i64 n)).cell? ⟨w1.heap.size, 1, none⟩ = some (.int .i64 n) := World.cell?_setCell_same _ _ _ p1
  have e2 : (w2.setCell ⟨w1.heap.size, 1, none⟩ (.int .i64 n)).cell? ⟨w1.heap.size, 2, none⟩ = some (.string ByteArray.empty) := (World.cell?_setCell_other _ _ _ _ (by simp)).trans p2
  have HR3 := Lib.hid (hr2.keep ⟨w1.heap.size, 1, none⟩ hne (.int .i64 n))
  have hlr := HR1.out.lt
  have HB3 : Hid (Below r w (w2.setCell ⟨w1.heap.size, 1, none⟩ (.int .i64 n))) := Lib.hid (((HK1.out.1.trans (hP.mono (Nat.le_of_lt hlr))).trans hk2.1).setCell (p := ⟨w1.heap.size, 1, none⟩) (Nat.le_of_lt hlr) _)
  have hl3 : Hid (w1.heap.size < (w2.setCell ⟨w1.heap.size, 1, none⟩ (.int .i64 n)).heap.size) := Lib.hid (by
    have h2 := hk2.2.1
    rw [hPs.out] at h2
    simp [World.setCell]; omega)
  clear hr2 hk2 hP hPs hPc hPf HR1 HK1 p2 p0
  go_wp2_with (first | (go_at_call 109; fail))
  clear p1 f1
  generalize w2.setCell ⟨w1.heap.size, 1, none⟩ (.int .i64 n) = w3 at *
  go_at_call 109
  refine (rErr r s _ _ HR3.out).mono ?_
  rintro e w' ⟨rfl, rfl⟩
  go_wp2_with (first | (go_at_call 60; fail))
  have hT3 := tabs_below HU.out HB3.out h5
  have h63 : 5 < w3.heap.size := by have := hl3.out; omega
  go_at_call 60
  refine (HOf.out w3 hT3 h63).mono ?_
  rintro e w4 ⟨rfl, hb4⟩
  have hS4 : GetS w4 w1.heap.size 4 n ByteArray.empty w4 := ⟨(hb4.cell hl3.out).trans e0, (hb4.cell hl3.out).trans e1, (hb4.cell hl3.out).trans e2, Lib.hid (Nat.lt_of_lt_of_le hl3.out hb4.size), Lib.hid (Below.refl _ _)⟩
  have HR4 := Lib.hid (HR3.out.below hb4)
  have hr3s : r ≤ w3.heap.size := Nat.le_of_lt HR3.out.lt
  have HB4 := Lib.hid (HB3.out.trans (hb4.mono hr3s))
  clear hb4 e0 e1 e2 hT3 h63 HR3 HB3
  go_wp2
  go_region_held3 (fun w' => w'.cell? ⟨w1.heap.size, 0, none⟩ = some (.int .i64 4) ∧ w'.cell? ⟨w1.heap.size, 1, none⟩ = some (.int .i64 n) ∧ w'.cell? ⟨w1.heap.size, 2, none⟩ = some (.string ByteArray.empty) ∧ Hid (w1.heap.size < w4.heap.size) ∧ Hid (Below w4.heap.size w4 w'))
    (first | exact GetS.drew ‹GetS w4 w1.heap.size 4 n ByteArray.empty _› | exact GetS.below ‹GetS w4 w1.heap.size 4 n ByteArray.empty _› ‹Below _ _ _›)
    (first | (go_at_call 37; refine (HT.out _).mono ?_; rintro e w5 ⟨rfl, hb5⟩))
  all_goals
    rename_i hS5
    have HB5 := hS5.2.2.2.2.out
    go_wp2
    go_ret2
    exact ⟨rfl, HR4.out.below HB5, HB4.out.trans (HB5.mono (Nat.le_of_lt HR4.out.lt))⟩
set_option maxHeartbeats 3200000 in
set_option maxRecDepth 100000 in
theorem get_text (v : V) (q : ByteArray) (hq : q.size ≤ 2000) (hok : v.ok) (hv : v.plainP = ⟨2, 0, q⟩) (r : Nat) (s : ByteArray) (hs : s.size ≤ 1000000) (hd : s.data.toList = vint 2 ++ (vint q.size ++ q.data.toList))
    (w : World) (hw : Rd w r s 0) (hU : Lib.Utf8Tabs 4 5 w) (h5 : 5 < r) :
    Calls Tryz.prog 33 #[.pointer (some ⟨r, 0, none⟩)] w fun e w' => e = .returned (.tuple #[v.val, .int .i64 0]) ∧ Rd w' r s s.size ∧ Below r w w' := by
  have HQ := Lib.hid (rUint 2 (by decide) r s 0 (vint q.size ++ q.data.toList) hs (by simpa using hd) w hw)
  have HI := Lib.hid fun w hw => rText q hq r s 1 [] hs (by rw [hd, vint_lo 2 (by decide)]; simp) w hw
  have HOf := Lib.hid fun w hT h7 => of_any v.plainP w hT h7 (by rw [hv]; show q.size < _; omega)
  have HSZ := Lib.hid (show 1 + (vint q.size).length + q.size = s.size by rw [size_eq s, hd, List.length_append, List.length_append, vint_lo 2 (by decide), ← size_eq]; simp; omega)
  rw [of_plain v hok, hv] at HOf
  have HT := Lib.hid fun w => tell_any v w
  rw [tell_plain, hv] at HT
  simp only [P.val] at HOf HT
  rw [V.val_eq] at HOf HT ⊢
  have HU := Lib.hid hU
  clear hok hv hd hU hw
  generalize v.ty = t at *
  generalize v.raw = x at *
  have hmin : min (2 : Int) 9 = 2 := by decide
  go_enter Tryz.func33, Tryz.ntmps33
  go_wp2_with (first | (go_at_call 106; fail))
  go_at_call 106
  refine HQ.out.mono ?_
  rintro e w1 ⟨rfl, hr1, hk1⟩
  rw [vint_lo 2 (by decide)] at hr1
  have hne := hr1.ne
  have HR1 := Lib.hid hr1
  have HK1 := Lib.hid hk1
  clear hr1 hk1
  go_wp2_with (first | (go_at_call 108; fail))
  have hP : Below w1.heap.size w1 (w1.alloc (.cells #[.int .i64 2, .int .i64 0, .string { data := #[] }] 41)) := (Below.refl _ _).alloc (Nat.le_refl _) _
  have hPs : Hid ((w1.alloc (.cells #[.int .i64 2, .int .i64 0, .string { data := #[] }] 41)).heap.size = w1.heap.size + 1) := Lib.hid (by simp)
  have hPc : Hid (∀ j, (w1.alloc (.cells #[.int .i64 2, .int .i64 0, .string { data := #[] }] 41)).cell? ⟨w1.heap.size, j, none⟩ = (#[Value.int .i64 2, .int .i64 0, .string { data := #[] }])[j]?) := Lib.hid fun j => by rw [World.cell?_alloc_at _ _ _ _ rfl]
  have hPf : Hid (∀ j, (w1.alloc (.cells #[.int .i64 2, .int .i64 0, .string { data := #[] }] 41)).frozen? ⟨w1.heap.size, j, none⟩ = false) := Lib.hid fun j => by simp
  generalize w1.alloc (.cells #[.int .i64 2, .int .i64 0, .string { data := #[] }] 41) = P at *
  go_at_call 108
  refine (HI.out P (HR1.out.below hP)).mono ?_
  rintro e w2 ⟨rfl, hr2, hk2⟩
  rw [HSZ.out] at hr2
  have p0 := (hk2.cell (k := w1.heap.size) (j := 0) hne).trans (hPc.out 0)
  have p1 := (hk2.cell (k := w1.heap.size) (j := 1) hne).trans (hPc.out 1)
  have p2 := (hk2.cell (k := w1.heap.size) (j := 2) hne).trans (hPc.out 2)
  have f2 := (hk2.frozen (k := w1.heap.size) (j := 2) hne).trans (hPf.out 2)
  simp only [List.getElem?_toArray, List.getElem?_cons_zero, List.getElem?_cons_succ] at p0 p1 p2
  have e0 : (w2.setCell ⟨w1.heap.size, 2, none⟩ (.string q)).cell? ⟨w1.heap.size, 0, none⟩ = some (.int .i64 2) := (World.cell?_setCell_other _ _ _ _ (by simp)).trans p0
  have e1 : (w2.setCell ⟨w1.heap.size, 2, none⟩ (.string q)).cell? ⟨w1.heap.size, 1, none⟩ = some (.int .i64 0) := (World.cell?_setCell_other _ _ _ _ (by simp)).trans p1
  have e2 : (w2.setCell ⟨w1.heap.size, 2, none⟩ (.string q)).cell? ⟨w1.heap.size, 2, none⟩ = some (.string q) := World.cell?_setCell_same _ _ _ p2
  have HR3 := Lib.hid (hr2.keep ⟨w1.heap.size, 2, none⟩ hne (.string q))
  have hlr := HR1.out.lt
  have HB3 : Hid (Below r w (w2.setCell ⟨w1.heap.size, 2, none⟩ (.string q))) := Lib.hid (((HK1.out.1.trans (hP.mono (Nat.le_of_lt hlr))).trans hk2.1).setCell (p := ⟨w1.heap.size, 2, none⟩) (Nat.le_of_lt hlr) _)
  have hl3 : Hid (w1.heap.size < (w2.setCell ⟨w1.heap.size, 2, none⟩ (.string q)).heap.size) := Lib.hid (by
    have h2 := hk2.2.1
    rw [hPs.out] at h2
    simp [World.setCell]; omega)
  clear hr2 hk2 hP hPs hPc hPf HR1 HK1 p1 p0
  go_wp2_with (first | (go_at_call 109; fail))
  clear p2 f2
  generalize w2.setCell ⟨w1.heap.size, 2, none⟩ (.string q) = w3 at *
  go_at_call 109
  refine (rErr r s _ _ HR3.out).mono ?_
  rintro e w' ⟨rfl, rfl⟩
  go_wp2_with (first | (go_at_call 60; fail))
  have hT3 := tabs_below HU.out HB3.out h5
  have h63 : 5 < w3.heap.size := by have := hl3.out; omega
  go_at_call 60
  refine (HOf.out w3 hT3 h63).mono ?_
  rintro e w4 ⟨rfl, hb4⟩
  have hS4 : GetS w4 w1.heap.size 2 0 q w4 := ⟨(hb4.cell hl3.out).trans e0, (hb4.cell hl3.out).trans e1, (hb4.cell hl3.out).trans e2, Lib.hid (Nat.lt_of_lt_of_le hl3.out hb4.size), Lib.hid (Below.refl _ _)⟩
  have HR4 := Lib.hid (HR3.out.below hb4)
  have hr3s : r ≤ w3.heap.size := Nat.le_of_lt HR3.out.lt
  have HB4 := Lib.hid (HB3.out.trans (hb4.mono hr3s))
  clear hb4 e0 e1 e2 hT3 h63 HR3 HB3
  go_wp2
  go_region_held3 (fun w' => w'.cell? ⟨w1.heap.size, 0, none⟩ = some (.int .i64 2) ∧ w'.cell? ⟨w1.heap.size, 1, none⟩ = some (.int .i64 0) ∧ w'.cell? ⟨w1.heap.size, 2, none⟩ = some (.string q) ∧ Hid (w1.heap.size < w4.heap.size) ∧ Hid (Below w4.heap.size w4 w'))
    (first | exact GetS.drew ‹GetS w4 w1.heap.size 2 0 q _› | exact GetS.below ‹GetS w4 w1.heap.size 2 0 q _› ‹Below _ _ _›)
    (first | (go_at_call 37; refine (HT.out _).mono ?_; rintro e w5 ⟨rfl, hb5⟩))
  all_goals
    rename_i hS5
    have HB5 := hS5.2.2.2.2.out
    go_wp2
    go_ret2
    exact ⟨rfl, HR4.out.below HB5, HB4.out.trans (HB5.mono (Nat.le_of_lt HR4.out.lt))⟩
set_option maxHeartbeats 3200000 in
set_option maxRecDepth 100000 in
theorem get_blank (v : V)  (hok : v.ok) (hv : v.plainP = ⟨0, 0, ByteArray.empty⟩) (r : Nat) (s : ByteArray) (hs : s.size ≤ 1000000) (hd : s.data.toList = vint 0)
    (w : World) (hw : Rd w r s 0) (hU : Lib.Utf8Tabs 4 5 w) (h5 : 5 < r) :
    Calls Tryz.prog 33 #[.pointer (some ⟨r, 0, none⟩)] w fun e w' => e = .returned (.tuple #[v.val, .int .i64 0]) ∧ Rd w' r s s.size ∧ Below r w w' := by
  have HQ := Lib.hid (rUint 0 (by decide) r s 0 [] hs (by simpa using hd) w hw)
  have HOf := Lib.hid fun w hT h7 => of_any v.plainP w hT h7 (by rw [hv]; show (0 : Nat) < _; decide)
  have HSZ := Lib.hid (show 1 = s.size by rw [size_eq s, hd, vint_lo 0 (by decide)]; rfl)
  rw [of_plain v hok, hv] at HOf
  have HT := Lib.hid fun w => tell_any v w
  rw [tell_plain, hv] at HT
  simp only [P.val] at HOf HT
  rw [V.val_eq] at HOf HT ⊢
  have HU := Lib.hid hU
  clear hok hv hd hU hw
  generalize v.ty = t at *
  generalize v.raw = x at *
  have hmin : min (0 : Int) 9 = 0 := by decide
  go_enter Tryz.func33, Tryz.ntmps33
  go_wp2_with (first | (go_at_call 106; fail))
  go_at_call 106
  refine HQ.out.mono ?_
  rintro e w1 ⟨rfl, hr1, hk1⟩
  rw [vint_lo 0 (by decide)] at hr1
  have hne := hr1.ne
  have HR1 := Lib.hid hr1
  have HK1 := Lib.hid hk1
  clear hr1 hk1
  go_wp2_with (first | (go_at_call 109; fail))
  have hP : Below w1.heap.size w1 (w1.alloc (.cells #[.int .i64 0, .int .i64 0, .string { data := #[] }] 41)) := (Below.refl _ _).alloc (Nat.le_refl _) _
  have hPs : Hid ((w1.alloc (.cells #[.int .i64 0, .int .i64 0, .string { data := #[] }] 41)).heap.size = w1.heap.size + 1) := Lib.hid (by simp)
  have hPc : Hid (∀ j, (w1.alloc (.cells #[.int .i64 0, .int .i64 0, .string { data := #[] }] 41)).cell? ⟨w1.heap.size, j, none⟩ = (#[Value.int .i64 0, .int .i64 0, .string { data := #[] }])[j]?) := Lib.hid fun j => by rw [World.cell?_alloc_at _ _ _ _ rfl]
  have hPf : Hid (∀ j, (w1.alloc (.cells #[.int .i64 0, .int .i64 0, .string { data := #[] }] 41)).frozen? ⟨w1.heap.size, j, none⟩ = false) := Lib.hid fun j => by simp
  generalize w1.alloc (.cells #[.int .i64 0, .int .i64 0, .string { data := #[] }] 41) = P at *
  have hr3 := HR1.out.below hP
  have e0 := hPc.out 0
  have e1 := hPc.out 1
  have e2 := hPc.out 2
  simp only [List.getElem?_toArray, List.getElem?_cons_zero, List.getElem?_cons_succ] at e0 e1 e2
  have hlr := HR1.out.lt
  have HR3 : Hid (Rd P r s s.size) := Lib.hid (by rw [← HSZ.out]; exact hr3)
  have HB3 : Hid (Below r w P) := Lib.hid (HK1.out.1.trans (hP.mono (Nat.le_of_lt hlr)))
  have hl3 : Hid (w1.heap.size < P.heap.size) := Lib.hid (by rw [hPs.out]; omega)
  clear hr3 hP hPs hPc hPf HR1 HK1
  have HS0 := HSZ
  clear HSZ
  generalize P = w3 at *
  go_at_call 109
  refine (rErr r s _ _ HR3.out).mono ?_
  rintro e w' ⟨rfl, rfl⟩
  go_wp2_with (first | (go_at_call 60; fail))
  have hT3 := tabs_below HU.out HB3.out h5
  have h63 : 5 < w3.heap.size := by have := hl3.out; omega
  go_at_call 60
  refine (HOf.out w3 hT3 h63).mono ?_
  rintro e w4 ⟨rfl, hb4⟩
  have hS4 : GetS w4 w1.heap.size 0 0 ByteArray.empty w4 := ⟨(hb4.cell hl3.out).trans e0, (hb4.cell hl3.out).trans e1, (hb4.cell hl3.out).trans e2, Lib.hid (Nat.lt_of_lt_of_le hl3.out hb4.size), Lib.hid (Below.refl _ _)⟩
  have HR4 := Lib.hid (HR3.out.below hb4)
  have hr3s : r ≤ w3.heap.size := Nat.le_of_lt HR3.out.lt
  have HB4 := Lib.hid (HB3.out.trans (hb4.mono hr3s))
  clear hb4 e0 e1 e2 hT3 h63 HR3 HB3
  go_wp2
  go_region_held3 (fun w' => w'.cell? ⟨w1.heap.size, 0, none⟩ = some (.int .i64 0) ∧ w'.cell? ⟨w1.heap.size, 1, none⟩ = some (.int .i64 0) ∧ w'.cell? ⟨w1.heap.size, 2, none⟩ = some (.string ByteArray.empty) ∧ Hid (w1.heap.size < w4.heap.size) ∧ Hid (Below w4.heap.size w4 w'))
    (first | exact GetS.drew ‹GetS w4 w1.heap.size 0 0 ByteArray.empty _› | exact GetS.below ‹GetS w4 w1.heap.size 0 0 ByteArray.empty _› ‹Below _ _ _›)
    (first | (go_at_call 37; refine (HT.out _).mono ?_; rintro e w5 ⟨rfl, hb5⟩))
  all_goals
    rename_i hS5
    have HB5 := hS5.2.2.2.2.out
    go_wp2
    go_ret2
    exact ⟨rfl, HR4.out.below HB5, HB4.out.trans (HB5.mono (Nat.le_of_lt HR4.out.lt))⟩
theorem get_any (v : V) (hok : v.ok) (hg : v.good) (r : Nat) (s : ByteArray) (hs : s.size ≤ 1000000) (hd : s.data.toList = v.bytes) (w : World) (hw : Rd w r s 0) (hU : Lib.Utf8Tabs 4 5 w) (h5 : 5 < r) :
    Calls Tryz.prog 33 #[.pointer (some ⟨r, 0, none⟩)] w fun e w' => e = .returned (.tuple #[v.val, .int .i64 0]) ∧ Rd w' r s s.size ∧ Below r w w' := by
  cases v with
  | num n => exact get_num (.num n) n (by have h1 := hg.1; have h2 := hg.2; omega) hok rfl r s hs hd w hw hU h5
  | text q => exact get_text (.text q) q hok.2 hok rfl r s hs hd w hw hU h5
  | bool x => exact get_bool (.bool x) (if x then 1 else 0) (by cases x <;> decide) hok rfl r s hs hd w hw hU h5
  | fail n => exact get_fail (.fail n) n (by have h1 := hg.1; have h2 := hg.2; omega) hok rfl r s hs hd w hw hU h5
  | blank => exact get_blank .blank hok rfl r s hs hd w hw hU h5
end Go.Proofs.YtkobkeopajohiaaGreatDoor
