/-
  CONTRACT of value.Put: a value as bytes.
-/
import Derived.Test.YtkobkeopajohiaaGreatDoorK2
import Derived.Test.YtkobkeopajohiaaGreatDoorH2
namespace Go.Proofs.YtkobkeopajohiaaGreatDoor
open Go.RowKit Go.Lib

/-- a value's bytes -/
def V.bytes : V → List UInt8
  | .num n => vint 1 ++ vint (fold n) | .text s => vint 2 ++ (vint s.size ++ s.data.toList) | .bool b => vint 3 ++ vint (fold (if b then 1 else 0))
  | .fail n => vint 4 ++ vint (fold n) | .blank => vint 0
theorem Wr.rebase {w : World} {b base base' : Nat} (h : Wr w b base []) (hv : w.cell? ⟨b, 0, none⟩ = some (.slice none 0 0)) (hb : base ≤ base') (hs : base' ≤ w.heap.size) : Wr w b base' [] :=
  ⟨Nat.lt_of_lt_of_le h.lt hb, hs, h.fz, _, hv, World.ownsRow_nil _ _ _ _⟩
set_option maxHeartbeats 1600000 in
set_option maxRecDepth 100000 in
theorem put_num (v : V) (n : Int) (hn : -1000000000000000000 ≤ n ∧ n ≤ 1000000000000000000) (hv : v.tell = .agg #[.int .i64 1, .int .i64 n, .string ByteArray.empty]) (b : Nat) (w : World) (hlt : b < w.heap.size)
    (hfz : w.frozen? ⟨b, 0, none⟩ = false) (hc : w.cell? ⟨b, 0, none⟩ = some (.slice none 0 0)) :
    Calls Tryz.prog 30 #[.pointer (some ⟨b, 0, none⟩), v.val] w fun e w' => e = .returned (.tuple #[]) ∧ (∃ base, Wr w' b base (vint 1 ++ vint (fold n))) ∧ Below b w w' := by
  have HT := Lib.hid fun w => hv ▸ tell_any v w
  rw [V.val_eq] at HT ⊢
  generalize v.ty = t at *
  generalize v.raw = x at *
  clear hv
  have HL := Lib.hid hlt
  have HF := Lib.hid hfz
  have HC := Lib.hid hc
  clear hlt hfz hc
  go_enter Tryz.func30, Tryz.ntmps30
  go_wp2_with (first | (go_at_call 37; fail))
  go_at_call 37
  refine (HT.out _).mono ?_
  rintro e w1 ⟨rfl, hb1⟩
  have hs1 := hb1.size
  have HB1 := Lib.hid hb1
  clear hb1
  go_wp2_with (first | (go_at_call 103; fail))
  have hP : Below w1.heap.size w1 (w1.alloc (.cells #[.int .i64 1, .int .i64 n, .string ByteArray.empty] 41)) := (Below.refl _ _).alloc (Nat.le_refl _) _
  have hPs : (w1.alloc (.cells #[.int .i64 1, .int .i64 n, .string ByteArray.empty] 41)).heap.size = w1.heap.size + 1 := by simp
  have hpc : ∀ j, (w1.alloc (.cells #[.int .i64 1, .int .i64 n, .string ByteArray.empty] 41)).cell? ⟨w1.heap.size, j, none⟩ = (#[Value.int .i64 1, .int .i64 n, .string ByteArray.empty])[j]? := fun j => by rw [World.cell?_alloc_at _ _ _ _ rfl]
  generalize w1.alloc (.cells #[.int .i64 1, .int .i64 n, .string ByteArray.empty] 41) = P at *
  have hl1 : b < w1.heap.size := Nat.lt_of_lt_of_le HL.out hs1
  have hWP : Wr P b (w1.heap.size + 1) [] := ⟨by omega, by omega, (hP.frozen hl1).trans ((HB1.out.frozen HL.out).trans HF.out), _, (hP.cell hl1).trans ((HB1.out.cell HL.out).trans HC.out), World.ownsRow_nil _ _ _ _⟩
  go_at_call 103
  refine (wUint 1 (by omega) b _ [] (by simp) P hWP).mono ?_
  rintro e w2 ⟨rfl, hw2, hk2⟩
  have pc0 := (hk2.cell (k := w1.heap.size) (j := 0) (by omega) (by omega)).trans (hpc 0)
  have pc1 := (hk2.cell (k := w1.heap.size) (j := 1) (by omega) (by omega)).trans (hpc 1)
  have pc2 := (hk2.cell (k := w1.heap.size) (j := 2) (by omega) (by omega)).trans (hpc 2)
  simp only [List.getElem?_toArray, List.getElem?_cons_zero, List.getElem?_cons_succ] at pc0 pc1 pc2
  have HW2 := Lib.hid (show Wr w2 b (w1.heap.size + 1) (vint 1) by simpa using hw2)
  have HB2 := Lib.hid (((HB1.out.mono (Nat.le_of_lt HL.out)).trans (hP.mono (Nat.le_of_lt hl1))).trans hk2.1)
  clear hw2 hk2 hWP hpc hPs hP
  have hv1 : (vint 1).length ≤ 1000000 := by rw [vint_lo _ (by decide)]; simp
  have HI := Lib.hid (wInt n hn b _ _ hv1 w2 HW2.out)
  clear hv1
  go_wp2_with (first | (go_at_call 104; fail))
  go_at_call 104
  refine HI.out.mono ?_
  rintro e w3 ⟨rfl, hw3, hk3⟩
  go_wp2
  go_end0
  exact ⟨rfl, ⟨_, hw3⟩, HB2.out.trans hk3.1⟩
set_option maxHeartbeats 1600000 in
set_option maxRecDepth 100000 in
theorem put_bool (v : V) (n : Int) (hn : -1000000000000000000 ≤ n ∧ n ≤ 1000000000000000000) (hv : v.tell = .agg #[.int .i64 3, .int .i64 n, .string ByteArray.empty]) (b : Nat) (w : World) (hlt : b < w.heap.size)
    (hfz : w.frozen? ⟨b, 0, none⟩ = false) (hc : w.cell? ⟨b, 0, none⟩ = some (.slice none 0 0)) :
    Calls Tryz.prog 30 #[.pointer (some ⟨b, 0, none⟩), v.val] w fun e w' => e = .returned (.tuple #[]) ∧ (∃ base, Wr w' b base (vint 3 ++ vint (fold n))) ∧ Below b w w' := by
  have HT := Lib.hid fun w => hv ▸ tell_any v w
  rw [V.val_eq] at HT ⊢
  generalize v.ty = t at *
  generalize v.raw = x at *
  clear hv
  have HL := Lib.hid hlt
  have HF := Lib.hid hfz
  have HC := Lib.hid hc
  clear hlt hfz hc
  go_enter Tryz.func30, Tryz.ntmps30
  go_wp2_with (first | (go_at_call 37; fail))
  go_at_call 37
  refine (HT.out _).mono ?_
  rintro e w1 ⟨rfl, hb1⟩
  have hs1 := hb1.size
  have HB1 := Lib.hid hb1
  clear hb1
  go_wp2_with (first | (go_at_call 103; fail))
  have hP : Below w1.heap.size w1 (w1.alloc (.cells #[.int .i64 3, .int .i64 n, .string ByteArray.empty] 41)) := (Below.refl _ _).alloc (Nat.le_refl _) _
  have hPs : (w1.alloc (.cells #[.int .i64 3, .int .i64 n, .string ByteArray.empty] 41)).heap.size = w1.heap.size + 1 := by simp
  have hpc : ∀ j, (w1.alloc (.cells #[.int .i64 3, .int .i64 n, .string ByteArray.empty] 41)).cell? ⟨w1.heap.size, j, none⟩ = (#[Value.int .i64 3, .int .i64 n, .string ByteArray.empty])[j]? := fun j => by rw [World.cell?_alloc_at _ _ _ _ rfl]
  generalize w1.alloc (.cells #[.int .i64 3, .int .i64 n, .string ByteArray.empty] 41) = P at *
  have hl1 : b < w1.heap.size := Nat.lt_of_lt_of_le HL.out hs1
  have hWP : Wr P b (w1.heap.size + 1) [] := ⟨by omega, by omega, (hP.frozen hl1).trans ((HB1.out.frozen HL.out).trans HF.out), _, (hP.cell hl1).trans ((HB1.out.cell HL.out).trans HC.out), World.ownsRow_nil _ _ _ _⟩
  go_at_call 103
  refine (wUint 3 (by omega) b _ [] (by simp) P hWP).mono ?_
  rintro e w2 ⟨rfl, hw2, hk2⟩
  have pc0 := (hk2.cell (k := w1.heap.size) (j := 0) (by omega) (by omega)).trans (hpc 0)
  have pc1 := (hk2.cell (k := w1.heap.size) (j := 1) (by omega) (by omega)).trans (hpc 1)
  have pc2 := (hk2.cell (k := w1.heap.size) (j := 2) (by omega) (by omega)).trans (hpc 2)
  simp only [List.getElem?_toArray, List.getElem?_cons_zero, List.getElem?_cons_succ] at pc0 pc1 pc2
  have HW2 := Lib.hid (show Wr w2 b (w1.heap.size + 1) (vint 3) by simpa using hw2)
  have HB2 := Lib.hid (((HB1.out.mono (Nat.le_of_lt HL.out)).trans (hP.mono (Nat.le_of_lt hl1))).trans hk2.1)
  clear hw2 hk2 hWP hpc hPs hP
  have hv1 : (vint 3).length ≤ 1000000 := by rw [vint_lo _ (by decide)]; simp
  have HI := Lib.hid (wInt n hn b _ _ hv1 w2 HW2.out)
  clear hv1
  go_wp2_with (first | (go_at_call 104; fail))
  go_at_call 104
  refine HI.out.mono ?_
  rintro e w3 ⟨rfl, hw3, hk3⟩
  go_wp2
  go_end0
  exact ⟨rfl, ⟨_, hw3⟩, HB2.out.trans hk3.1⟩
set_option maxHeartbeats 1600000 in
set_option maxRecDepth 100000 in
theorem put_fail (v : V) (n : Int) (hn : -1000000000000000000 ≤ n ∧ n ≤ 1000000000000000000) (hv : v.tell = .agg #[.int .i64 4, .int .i64 n, .string ByteArray.empty]) (b : Nat) (w : World) (hlt : b < w.heap.size)
    (hfz : w.frozen? ⟨b, 0, none⟩ = false) (hc : w.cell? ⟨b, 0, none⟩ = some (.slice none 0 0)) :
    Calls Tryz.prog 30 #[.pointer (some ⟨b, 0, none⟩), v.val] w fun e w' => e = .returned (.tuple #[]) ∧ (∃ base, Wr w' b base (vint 4 ++ vint (fold n))) ∧ Below b w w' := by
  have HT := Lib.hid fun w => hv ▸ tell_any v w
  rw [V.val_eq] at HT ⊢
  generalize v.ty = t at *
  generalize v.raw = x at *
  clear hv
  have HL := Lib.hid hlt
  have HF := Lib.hid hfz
  have HC := Lib.hid hc
  clear hlt hfz hc
  go_enter Tryz.func30, Tryz.ntmps30
  go_wp2_with (first | (go_at_call 37; fail))
  go_at_call 37
  refine (HT.out _).mono ?_
  rintro e w1 ⟨rfl, hb1⟩
  have hs1 := hb1.size
  have HB1 := Lib.hid hb1
  clear hb1
  go_wp2_with (first | (go_at_call 103; fail))
  have hP : Below w1.heap.size w1 (w1.alloc (.cells #[.int .i64 4, .int .i64 n, .string ByteArray.empty] 41)) := (Below.refl _ _).alloc (Nat.le_refl _) _
  have hPs : (w1.alloc (.cells #[.int .i64 4, .int .i64 n, .string ByteArray.empty] 41)).heap.size = w1.heap.size + 1 := by simp
  have hpc : ∀ j, (w1.alloc (.cells #[.int .i64 4, .int .i64 n, .string ByteArray.empty] 41)).cell? ⟨w1.heap.size, j, none⟩ = (#[Value.int .i64 4, .int .i64 n, .string ByteArray.empty])[j]? := fun j => by rw [World.cell?_alloc_at _ _ _ _ rfl]
  generalize w1.alloc (.cells #[.int .i64 4, .int .i64 n, .string ByteArray.empty] 41) = P at *
  have hl1 : b < w1.heap.size := Nat.lt_of_lt_of_le HL.out hs1
  have hWP : Wr P b (w1.heap.size + 1) [] := ⟨by omega, by omega, (hP.frozen hl1).trans ((HB1.out.frozen HL.out).trans HF.out), _, (hP.cell hl1).trans ((HB1.out.cell HL.out).trans HC.out), World.ownsRow_nil _ _ _ _⟩
  go_at_call 103
  refine (wUint 4 (by omega) b _ [] (by simp) P hWP).mono ?_
  rintro e w2 ⟨rfl, hw2, hk2⟩
  have pc0 := (hk2.cell (k := w1.heap.size) (j := 0) (by omega) (by omega)).trans (hpc 0)
  have pc1 := (hk2.cell (k := w1.heap.size) (j := 1) (by omega) (by omega)).trans (hpc 1)
  have pc2 := (hk2.cell (k := w1.heap.size) (j := 2) (by omega) (by omega)).trans (hpc 2)
  simp only [List.getElem?_toArray, List.getElem?_cons_zero, List.getElem?_cons_succ] at pc0 pc1 pc2
  have HW2 := Lib.hid (show Wr w2 b (w1.heap.size + 1) (vint 4) by simpa using hw2)
  have HB2 := Lib.hid (((HB1.out.mono (Nat.le_of_lt HL.out)).trans (hP.mono (Nat.le_of_lt hl1))).trans hk2.1)
  clear hw2 hk2 hWP hpc hPs hP
  have hv1 : (vint 4).length ≤ 1000000 := by rw [vint_lo _ (by decide)]; simp
  have HI := Lib.hid (wInt n hn b _ _ hv1 w2 HW2.out)
  clear hv1
  go_wp2_with (first | (go_at_call 104; fail))
  go_at_call 104
  refine HI.out.mono ?_
  rintro e w3 ⟨rfl, hw3, hk3⟩
  go_wp2
  go_end0
  exact ⟨rfl, ⟨_, hw3⟩, HB2.out.trans hk3.1⟩
set_option maxHeartbeats 1600000 in
set_option maxRecDepth 100000 in
theorem put_text (v : V) (s : ByteArray) (hs : s.size ≤ 100000) (hv : v.tell = .agg #[.int .i64 2, .int .i64 0, .string s]) (b : Nat) (w : World) (hlt : b < w.heap.size)
    (hfz : w.frozen? ⟨b, 0, none⟩ = false) (hc : w.cell? ⟨b, 0, none⟩ = some (.slice none 0 0)) :
    Calls Tryz.prog 30 #[.pointer (some ⟨b, 0, none⟩), v.val] w fun e w' => e = .returned (.tuple #[]) ∧ (∃ base, Wr w' b base (vint 2 ++ (vint s.size ++ s.data.toList))) ∧ Below b w w' := by
  have HT := Lib.hid fun w => hv ▸ tell_any v w
  rw [V.val_eq] at HT ⊢
  generalize v.ty = t at *
  generalize v.raw = x at *
  clear hv
  have HL := Lib.hid hlt
  have HF := Lib.hid hfz
  have HC := Lib.hid hc
  clear hlt hfz hc
  go_enter Tryz.func30, Tryz.ntmps30
  go_wp2_with (first | (go_at_call 37; fail))
  go_at_call 37
  refine (HT.out _).mono ?_
  rintro e w1 ⟨rfl, hb1⟩
  have hs1 := hb1.size
  have HB1 := Lib.hid hb1
  clear hb1
  go_wp2_with (first | (go_at_call 103; fail))
  have hP : Below w1.heap.size w1 (w1.alloc (.cells #[.int .i64 2, .int .i64 0, .string s] 41)) := (Below.refl _ _).alloc (Nat.le_refl _) _
  have hPs : (w1.alloc (.cells #[.int .i64 2, .int .i64 0, .string s] 41)).heap.size = w1.heap.size + 1 := by simp
  have hpc : ∀ j, (w1.alloc (.cells #[.int .i64 2, .int .i64 0, .string s] 41)).cell? ⟨w1.heap.size, j, none⟩ = (#[Value.int .i64 2, .int .i64 0, .string s])[j]? := fun j => by rw [World.cell?_alloc_at _ _ _ _ rfl]
  generalize w1.alloc (.cells #[.int .i64 2, .int .i64 0, .string s] 41) = P at *
  have hl1 : b < w1.heap.size := Nat.lt_of_lt_of_le HL.out hs1
  have hWP : Wr P b (w1.heap.size + 1) [] := ⟨by omega, by omega, (hP.frozen hl1).trans ((HB1.out.frozen HL.out).trans HF.out), _, (hP.cell hl1).trans ((HB1.out.cell HL.out).trans HC.out), World.ownsRow_nil _ _ _ _⟩
  go_at_call 103
  refine (wUint 2 (by omega) b _ [] (by simp) P hWP).mono ?_
  rintro e w2 ⟨rfl, hw2, hk2⟩
  have pc0 := (hk2.cell (k := w1.heap.size) (j := 0) (by omega) (by omega)).trans (hpc 0)
  have pc1 := (hk2.cell (k := w1.heap.size) (j := 1) (by omega) (by omega)).trans (hpc 1)
  have pc2 := (hk2.cell (k := w1.heap.size) (j := 2) (by omega) (by omega)).trans (hpc 2)
  simp only [List.getElem?_toArray, List.getElem?_cons_zero, List.getElem?_cons_succ] at pc0 pc1 pc2
  have HW2 := Lib.hid (show Wr w2 b (w1.heap.size + 1) (vint 2) by simpa using hw2)
  have HB2 := Lib.hid (((HB1.out.mono (Nat.le_of_lt HL.out)).trans (hP.mono (Nat.le_of_lt hl1))).trans hk2.1)
  clear hw2 hk2 hWP hpc hPs hP
  have hv1 : (vint 2).length ≤ 100000 := by rw [vint_lo _ (by decide)]; simp
  have HI := Lib.hid (wText s hs b _ _ hv1 w2 HW2.out)
  clear hv1
  go_wp2_with (first | (go_at_call 105; fail))
  go_at_call 105
  refine HI.out.mono ?_
  rintro e w3 ⟨rfl, hw3, hk3⟩
  go_wp2
  go_end0
  exact ⟨rfl, ⟨_, hw3⟩, HB2.out.trans hk3.1⟩
set_option maxHeartbeats 1600000 in
set_option maxRecDepth 100000 in
theorem put_blank (v : V)  (hv : v.tell = .agg #[.int .i64 0, .int .i64 0, .string ByteArray.empty]) (b : Nat) (w : World) (hlt : b < w.heap.size)
    (hfz : w.frozen? ⟨b, 0, none⟩ = false) (hc : w.cell? ⟨b, 0, none⟩ = some (.slice none 0 0)) :
    Calls Tryz.prog 30 #[.pointer (some ⟨b, 0, none⟩), v.val] w fun e w' => e = .returned (.tuple #[]) ∧ (∃ base, Wr w' b base (vint 0)) ∧ Below b w w' := by
  have HT := Lib.hid fun w => hv ▸ tell_any v w
  rw [V.val_eq] at HT ⊢
  generalize v.ty = t at *
  generalize v.raw = x at *
  clear hv
  have HL := Lib.hid hlt
  have HF := Lib.hid hfz
  have HC := Lib.hid hc
  clear hlt hfz hc
  go_enter Tryz.func30, Tryz.ntmps30
  go_wp2_with (first | (go_at_call 37; fail))
  go_at_call 37
  refine (HT.out _).mono ?_
  rintro e w1 ⟨rfl, hb1⟩
  have hs1 := hb1.size
  have HB1 := Lib.hid hb1
  clear hb1
  go_wp2_with (first | (go_at_call 103; fail))
  have hP : Below w1.heap.size w1 (w1.alloc (.cells #[.int .i64 0, .int .i64 0, .string ByteArray.empty] 41)) := (Below.refl _ _).alloc (Nat.le_refl _) _
  have hPs : (w1.alloc (.cells #[.int .i64 0, .int .i64 0, .string ByteArray.empty] 41)).heap.size = w1.heap.size + 1 := by simp
  have hpc : ∀ j, (w1.alloc (.cells #[.int .i64 0, .int .i64 0, .string ByteArray.empty] 41)).cell? ⟨w1.heap.size, j, none⟩ = (#[Value.int .i64 0, .int .i64 0, .string ByteArray.empty])[j]? := fun j => by rw [World.cell?_alloc_at _ _ _ _ rfl]
  generalize w1.alloc (.cells #[.int .i64 0, .int .i64 0, .string ByteArray.empty] 41) = P at *
  have hl1 : b < w1.heap.size := Nat.lt_of_lt_of_le HL.out hs1
  have hWP : Wr P b (w1.heap.size + 1) [] := ⟨by omega, by omega, (hP.frozen hl1).trans ((HB1.out.frozen HL.out).trans HF.out), _, (hP.cell hl1).trans ((HB1.out.cell HL.out).trans HC.out), World.ownsRow_nil _ _ _ _⟩
  go_at_call 103
  refine (wUint 0 (by omega) b _ [] (by simp) P hWP).mono ?_
  rintro e w2 ⟨rfl, hw2, hk2⟩
  have pc0 := (hk2.cell (k := w1.heap.size) (j := 0) (by omega) (by omega)).trans (hpc 0)
  have pc1 := (hk2.cell (k := w1.heap.size) (j := 1) (by omega) (by omega)).trans (hpc 1)
  have pc2 := (hk2.cell (k := w1.heap.size) (j := 2) (by omega) (by omega)).trans (hpc 2)
  simp only [List.getElem?_toArray, List.getElem?_cons_zero, List.getElem?_cons_succ] at pc0 pc1 pc2
  have HW2 := Lib.hid (show Wr w2 b (w1.heap.size + 1) (vint 0) by simpa using hw2)
  have HB2 := Lib.hid (((HB1.out.mono (Nat.le_of_lt HL.out)).trans (hP.mono (Nat.le_of_lt hl1))).trans hk2.1)
  clear hw2 hk2 hWP hpc hPs hP
  go_wp2
  go_end0
  exact ⟨rfl, ⟨_, HW2.out⟩, HB2.out⟩
theorem put_any (v : V) (hg : v.good) (hs : v.short 100000) (b : Nat) (w : World) (hlt : b < w.heap.size) (hfz : w.frozen? ⟨b, 0, none⟩ = false) (hc : w.cell? ⟨b, 0, none⟩ = some (.slice none 0 0)) :
    Calls Tryz.prog 30 #[.pointer (some ⟨b, 0, none⟩), v.val] w fun e w' => e = .returned (.tuple #[]) ∧ (∃ base, Wr w' b base v.bytes) ∧ Below b w w' := by
  cases v with
  | num n => exact put_num (.num n) n (by have h1 := hg.1; have h2 := hg.2; omega) rfl b w hlt hfz hc
  | text s => exact put_text (.text s) s hs rfl b w hlt hfz hc
  | bool x => exact put_bool (.bool x) (if x then 1 else 0) (by cases x <;> decide) rfl b w hlt hfz hc
  | fail n => exact put_fail (.fail n) n (by have h1 := hg.1; have h2 := hg.2; omega) rfl b w hlt hfz hc
  | blank => exact put_blank .blank rfl b w hlt hfz hc
theorem bytes_pos (v : V) : 0 < v.bytes.length := by
  have h : ∀ u, 0 < (vint u).length := fun u => by rw [vint]; split <;> simp
  cases v <;> simp only [V.bytes, List.length_append] <;> first | exact h _ | (have := h 1; omega) | (have := h 2; omega) | (have := h 3; omega) | (have := h 4; omega)
end Go.Proofs.YtkobkeopajohiaaGreatDoor
