/-
  CONTRACT of the law helper Made of layer 15: a value, and what the reference makes of it.
-/
import Derived.Test.YtkobkeopajohiaaGreatDoorG4
import Derived.Deep.RegionHeld3
namespace Go.Proofs.YtkobkeopajohiaaGreatDoor
open Go.RowKit Go.Lib

theorem tell_form (v : V) : ∃ a b s, v.tell = .agg #[.int .i64 a, .int .i64 b, .string s] := by
  cases v <;> exact ⟨_, _, _, rfl⟩
def outC (w : World) (a : Addr) : Value := (w.cell? a).getD undef
theorem outC_of {w : World} {a : Addr} {v : Value} (h : w.cell? a = some v) : w.cell? a = some (outC w a) := by unfold outC; rw [h]; rfl
/-- what the one region of Made reads and writes: the plain data's cells; the result's are there -/
abbrev MadeS (w : World) (h : Nat) (k n : Int) (s : ByteArray) (w' : World) : Prop :=
  w'.cell? ⟨h, 0, none⟩ = some (.int .i64 k) ∧ w'.cell? ⟨h, 1, none⟩ = some (.int .i64 n) ∧ w'.cell? ⟨h, 2, none⟩ = some (.string s) ∧
  w'.cell? ⟨h + 1, 0, none⟩ = some (outC w' ⟨h + 1, 0, none⟩) ∧ w'.cell? ⟨h + 1, 1, none⟩ = some (outC w' ⟨h + 1, 1, none⟩) ∧ w'.cell? ⟨h + 1, 2, none⟩ = some (outC w' ⟨h + 1, 2, none⟩) ∧
  w'.frozen? ⟨h + 1, 0, none⟩ = false ∧ w'.frozen? ⟨h + 1, 1, none⟩ = false ∧ w'.frozen? ⟨h + 1, 2, none⟩ = false ∧
  Hid (h + 1 < w'.heap.size) ∧ Hid (Below w.heap.size w w')
theorem MadeS.below {w : World} {h : Nat} {k n : Int} {s : ByteArray} {w1 w2 : World} (hS : MadeS w h k n s w1) (hb : Below w1.heap.size w1 w2) : MadeS w h k n s w2 := by
  obtain ⟨h0, h1, h2, h3, h4, h5, h6, h7, h8, h9, h10⟩ := hS
  have l0 : h < w1.heap.size := by have := h9.out; omega
  have l1 : h + 1 < w1.heap.size := h9.out
  exact ⟨(hb.cell l0).trans h0, (hb.cell l0).trans h1, (hb.cell l0).trans h2, outC_of ((hb.cell l1).trans h3), outC_of ((hb.cell l1).trans h4), outC_of ((hb.cell l1).trans h5),
    (hb.frozen l1).trans h6, (hb.frozen l1).trans h7, (hb.frozen l1).trans h8, Lib.hid (Nat.lt_of_lt_of_le l1 hb.size), Lib.hid (h10.out.trans (hb.mono h10.out.size))⟩
theorem MadeS.drew {w : World} {h : Nat} {k n : Int} {s : ByteArray} {w1 : World} (hS : MadeS w h k n s w1) : MadeS w h k n s w1.drew := hS.below ((Below.refl _ _).drew)
theorem MadeS.set {w : World} {h : Nat} {k n : Int} {s : ByteArray} {w1 : World} (hh : h = w.heap.size) (hS : MadeS w h k n s w1) (i : Nat) (v : Value) : MadeS w h k n s (w1.setCell ⟨h + 1, i, none⟩ v) := by
  obtain ⟨h0, h1, h2, h3, h4, h5, h6, h7, h8, h9, h10⟩ := hS
  have hc : ∀ j u, w1.cell? ⟨h + 1, j, none⟩ = some u → ∃ u', (w1.setCell ⟨h + 1, i, none⟩ v).cell? ⟨h + 1, j, none⟩ = some u' := fun j u hu => by
    by_cases e : j = i
    · subst e; exact ⟨_, World.cell?_setCell_same _ _ _ hu⟩
    · exact ⟨u, by rw [World.cell?_setCell_other _ _ _ _ (by simp)]; exact hu⟩
  have ho : ∀ j, (w1.setCell ⟨h + 1, i, none⟩ v).cell? ⟨h, j, none⟩ = w1.cell? ⟨h, j, none⟩ := fun j => World.cell?_setCell_other _ _ _ _ (by simp)
  obtain ⟨_, e3⟩ := hc _ _ h3
  obtain ⟨_, e4⟩ := hc _ _ h4
  obtain ⟨_, e5⟩ := hc _ _ h5
  exact ⟨(ho 0).trans h0, (ho 1).trans h1, (ho 2).trans h2, outC_of e3, outC_of e4, outC_of e5, by rw [World.frozen?_setCell]; exact h6, by rw [World.frozen?_setCell]; exact h7, by rw [World.frozen?_setCell]; exact h8,
    Lib.hid (by have := h9.out; simpa [World.setCell] using this), Lib.hid (h10.out.setCell (by show w.heap.size ≤ h + 1; omega) v)⟩
set_option maxHeartbeats 3200000 in
set_option maxRecDepth 100000 in
theorem lawMade_any (p : P) (w : World) (hT : Lib.Utf8Tabs 4 5 w) (h7 : 5 < w.heap.size) (hs : p.s.size ≤ 9223372036854775800) :
    Calls Tryz.prog 17 #[p.val] w fun e w' => e = .returned (.tuple #[p.of.val, p.of.tell]) ∧ Below w.heap.size w w' := by
  have HO := Lib.hid fun w hT h7 => of_any p w hT h7 (by omega)
  have HR := Lib.hid fun w => refOf_any p w hs
  have HT := Lib.hid hT
  clear hT
  generalize p.of = v at *
  obtain ⟨ya, yb, yc, hy⟩ := tell_form v
  rw [hy] at HR ⊢
  clear hy
  obtain ⟨k, n, s⟩ := p
  simp only [P.val] at HO HR ⊢
  rw [V.val_eq] at HO
  rw [V.val_eq]
  generalize v.ty = t at *
  generalize v.raw = x at *
  clear hs
  have hB : w.heap.size < (w.alloc (.cells #[.int .i64 k, .int .i64 n, .string s] 41)).heap.size := by simp
  go_enter Tryz.func17, Tryz.ntmps17
  go_wp2
  have hS0 : MadeS w w.heap.size k n s ((w.alloc (.cells #[.int .i64 k, .int .i64 n, .string s] 41)).alloc (.cells #[.int .i64 0, .int .i64 0, .string { data := #[] }] 28)) := by
    have a1 : ∀ j, ((w.alloc (.cells #[.int .i64 k, .int .i64 n, .string s] 41)).alloc (.cells #[.int .i64 0, .int .i64 0, .string { data := #[] }] 28)).cell? ⟨w.heap.size, j, none⟩ = (#[Value.int .i64 k, .int .i64 n, .string s])[j]? := fun j => by
      rw [World.cell?_alloc_past _ _ _ (by simp), World.cell?_alloc_at _ _ _ _ rfl]
    have a2 : ∀ j, ((w.alloc (.cells #[.int .i64 k, .int .i64 n, .string s] 41)).alloc (.cells #[.int .i64 0, .int .i64 0, .string { data := #[] }] 28)).cell? ⟨w.heap.size + 1, j, none⟩ = (#[Value.int .i64 0, .int .i64 0, .string { data := #[] }])[j]? := fun j => by
      rw [World.cell?_alloc_at _ _ _ _ (by simp)]
    exact ⟨a1 0, a1 1, a1 2, outC_of (a2 0), outC_of (a2 1), outC_of (a2 2), by simp, by simp, by simp, Lib.hid (by simp), Lib.hid (((Below.refl _ _).alloc (Nat.le_refl _) _).alloc (by simp) _)⟩
  go_region_held3 (fun w' => w'.cell? ⟨w.heap.size, 0, none⟩ = some (.int .i64 k) ∧ w'.cell? ⟨w.heap.size, 1, none⟩ = some (.int .i64 n) ∧ w'.cell? ⟨w.heap.size, 2, none⟩ = some (.string s) ∧
  w'.cell? ⟨w.heap.size + 1, 0, none⟩ = some (outC w' ⟨w.heap.size + 1, 0, none⟩) ∧ w'.cell? ⟨w.heap.size + 1, 1, none⟩ = some (outC w' ⟨w.heap.size + 1, 1, none⟩) ∧ w'.cell? ⟨w.heap.size + 1, 2, none⟩ = some (outC w' ⟨w.heap.size + 1, 2, none⟩) ∧
  w'.frozen? ⟨w.heap.size + 1, 0, none⟩ = false ∧ w'.frozen? ⟨w.heap.size + 1, 1, none⟩ = false ∧ w'.frozen? ⟨w.heap.size + 1, 2, none⟩ = false ∧
  Hid (w.heap.size + 1 < w'.heap.size) ∧ Hid (Below w.heap.size w w'))
    (first | exact MadeS.drew ‹MadeS w w.heap.size k n s _› | exact MadeS.below ‹MadeS w w.heap.size k n s _› ‹Below _ _ _› | exact MadeS.set rfl (MadeS.set rfl (MadeS.set rfl ‹MadeS w w.heap.size k n s _› 0 _) 1 _) 2 _)
    (first
      | (go_at_call 60; refine (HO.out _ (tabs_below HT.out (‹MadeS w w.heap.size k n s _›).2.2.2.2.2.2.2.2.2.2.out h7) (Nat.lt_of_lt_of_le h7 (‹MadeS w w.heap.size k n s _›).2.2.2.2.2.2.2.2.2.2.out.size)).mono ?_; rintro e w2 ⟨rfl, hb⟩)
      | (go_at_call 80; refine (HR.out _).mono ?_; rintro e w2 ⟨rfl, hb⟩))
  rename_i wa hba hfin
  obtain ⟨_, _, _, h3, h4, h5, _, _, _, _, h10⟩ := (hS0.drew.below hba).below hb
  clear hfin hba hb hS0
  have e0 : (((w2.setCell ⟨w.heap.size + 1, 0, none⟩ (.int .i64 ya)).setCell ⟨w.heap.size + 1, 1, none⟩ (.int .i64 yb)).setCell ⟨w.heap.size + 1, 2, none⟩ (.string yc)).cell? ⟨w.heap.size + 1, 0, none⟩ = some (.int .i64 ya) := by
    rw [World.cell?_setCell_other _ _ _ _ (by simp), World.cell?_setCell_other _ _ _ _ (by simp)]
    exact World.cell?_setCell_same _ _ _ h3
  have e1 : (((w2.setCell ⟨w.heap.size + 1, 0, none⟩ (.int .i64 ya)).setCell ⟨w.heap.size + 1, 1, none⟩ (.int .i64 yb)).setCell ⟨w.heap.size + 1, 2, none⟩ (.string yc)).cell? ⟨w.heap.size + 1, 1, none⟩ = some (.int .i64 yb) := by
    rw [World.cell?_setCell_other _ _ _ _ (by simp)]
    exact World.cell?_setCell_same _ _ _ (by rw [World.cell?_setCell_other _ _ _ _ (by simp)]; exact h4)
  have e2 : (((w2.setCell ⟨w.heap.size + 1, 0, none⟩ (.int .i64 ya)).setCell ⟨w.heap.size + 1, 1, none⟩ (.int .i64 yb)).setCell ⟨w.heap.size + 1, 2, none⟩ (.string yc)).cell? ⟨w.heap.size + 1, 2, none⟩ = some (.string yc) :=
    World.cell?_setCell_same _ _ _ (by rw [World.cell?_setCell_other _ _ _ _ (by simp), World.cell?_setCell_other _ _ _ _ (by simp)]; exact h5)
  have hbf : Below w.heap.size w (((w2.setCell ⟨w.heap.size + 1, 0, none⟩ (.int .i64 ya)).setCell ⟨w.heap.size + 1, 1, none⟩ (.int .i64 yb)).setCell ⟨w.heap.size + 1, 2, none⟩ (.string yc)) :=
    ((h10.out.setCell (by show w.heap.size ≤ w.heap.size + 1; omega) _).setCell (by show w.heap.size ≤ w.heap.size + 1; omega) _).setCell (by show w.heap.size ≤ w.heap.size + 1; omega) _
  clear h3 h4 h5 h10
  generalize (((w2.setCell ⟨w.heap.size + 1, 0, none⟩ (.int .i64 ya)).setCell ⟨w.heap.size + 1, 1, none⟩ (.int .i64 yb)).setCell ⟨w.heap.size + 1, 2, none⟩ (.string yc)) = wf at *
  go_wp2
  refine bodyPost_ret (v := .tuple #[.iface t x, .agg #[.int .i64 ya, .int .i64 yb, .string yc]]) (by simp [results, Tryz.results17, go_sem, e0, e1, e2]) rfl ?_
  exact ⟨rfl, hbf⟩
end Go.Proofs.YtkobkeopajohiaaGreatDoor
