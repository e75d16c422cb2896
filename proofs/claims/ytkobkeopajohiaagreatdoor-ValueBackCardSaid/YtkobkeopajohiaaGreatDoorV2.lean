/-
  VALUES: one value as an argument, a value as a number, a number that is counted.
-/
import Derived.Test.YtkobkeopajohiaaGreatDoorV1
namespace Go.Proofs.YtkobkeopajohiaaGreatDoor
open Go.RowKit Go.Lib

def V.ty : V → TypeId | .num _ => 80 | .text _ => 124 | .bool _ => 127 | .fail _ => 51 | .blank => 143
def V.raw : V → Value | .num n => .int .i64 n | .text s => .string s | .bool b => .bool b | .fail n => .int .i64 n | .blank => .agg #[]
theorem V.val_eq (v : V) : v.val = .iface v.ty v.raw := by cases v <;> rfl

/-- block r is a cell that holds the value v, and lies there -/
def Held (w : World) (r : Nat) (v : V) : Prop := r < w.heap.size ∧ ∃ fr, w.heap[r]? = some (.cells #[v.val] 31 fr)
theorem Held.below {w w' : World} {r : Nat} {v : V} {B : Nat} (h : Held w r v) (hb : Below B w w') (hr : r < B) : Held w' r v :=
  ⟨Nat.lt_of_lt_of_le h.1 hb.size, h.2.imp fun _ e => (hb.block r hr).trans e⟩
theorem Held.cell {w : World} {r : Nat} {v : V} (h : Held w r v) : w.cell? ⟨r, 0, none⟩ = some (.iface v.ty v.raw) := by
  obtain ⟨_, fr, h⟩ := h
  simp [World.cell?, h, V.val_eq]
abbrev arg (r : Nat) : Value := .agg #[.int .i64 1, .int .i64 1, .bool false, .slice (some ⟨r, 0, none⟩) 1 1]

theorem last_block (w : World) (o : Obj) (k : Nat) (h : k = w.heap.size) : (w.alloc o).heap[k]? = some o := by
  subst h
  exact Array.getElem?_push_size
set_option maxRecDepth 100000 in
theorem one_any (v : V) (w : World) :
    Calls Tryz.prog 59 #[v.val] w fun e w' => ∃ r : Nat, e = .returned (arg r) ∧ w.heap.size ≤ r ∧ Held w' r v ∧ Below w.heap.size w w' := by
  simp only [Held, V.val_eq]
  generalize v.ty = t
  generalize v.raw = x
  go_enter Tryz.func59, Tryz.ntmps59
  go_wp2
  go_returns
  refine ⟨w.heap.size + 1, rfl, by omega, ⟨by simp, (0, 0), last_block _ _ _ (by simp)⟩, by go_grown⟩
set_option maxRecDepth 100000 in
theorem argValue_one (v : V) (r : Nat) (w : World) (h : Held w r v) :
    Calls Tryz.prog 79 #[arg r] w fun e w' => e = .returned v.val ∧ Below w.heap.size w w' := by
  have hr := h.1
  have hc := h.cell
  clear h
  rw [V.val_eq]
  generalize v.ty = t at *
  generalize v.raw = x at *
  have hc2 : (w.alloc (Obj.cells #[.int .i64 1, .int .i64 1, .bool false, .slice (some ⟨r, 0, none⟩) 1 1] 98)).cell? ⟨r, 0, none⟩ = some (.iface t x) := by
    rw [World.cell?_alloc_past _ _ _ hr]; exact hc
  go_enter Tryz.func79, Tryz.ntmps79
  go_wp2
  go_returns
  exact ⟨rfl, by go_grown⟩
set_option maxRecDepth 100000 in
theorem counted_yes (n : Int) (w : World) :
    Calls Tryz.prog 43 #[.int .i64 n, .bool true] w fun e w' => e = .returned (V.num n).val ∧ w = w' := by
  go_enter Tryz.func43, Tryz.ntmps43
  go_wp2
  go_returns
  exact ⟨rfl, rfl⟩
set_option maxRecDepth 100000 in
theorem counted_no (n : Int) (w : World) :
    Calls Tryz.prog 43 #[.int .i64 n, .bool false] w fun e w' => e = .returned (V.fail 2).val ∧ w = w' := by
  go_enter Tryz.func43, Tryz.ntmps43
  go_wp2
  go_returns
  exact ⟨rfl, rfl⟩
theorem trim_any (s : ByteArray) (w : World) (hs : s.size ≤ 9223372036854775807) :
    Calls Tryz.prog 101 #[.string s] w fun e w' => e = .returned (.string ⟨(Lib.trimB s.data.toList 32).toArray⟩) ∧ Below w.heap.size w w' := by
  have HT := Lib.hid fun w => Tryz.strings_Trim_one s 32 (by decide) w hs
  generalize (Lib.trimB s.data.toList 32) = t at *
  clear hs
  go_enter Tryz.func101, Tryz.ntmps101
  go_wp2_with (first | (go_at_call 145; fail))
  go_at_call 145
  refine (HT.out _).mono ?_
  rintro e w' ⟨rfl, rfl | rfl⟩
  · go_wp2
    go_returns
    exact ⟨rfl, by go_grown⟩
  · go_wp2
    go_returns
    exact ⟨rfl, by go_grown⟩
theorem trimB_le (l : List UInt8) (c : UInt8) : (Lib.trimB l c).length ≤ l.length := by
  unfold Lib.trimB Lib.trimLeftB Lib.trimRightB
  refine Nat.le_trans (List.dropWhile_suffix _).length_le ?_
  rw [List.length_reverse]
  refine Nat.le_trans (List.dropWhile_suffix _).length_le ?_
  rw [List.length_reverse]
  exact Nat.le_refl _
/-- what a value is as a number, and its failure (0: it is one) -/
def V.asNum : V → Int × Int
  | .num n => (n, 0) | .bool b => (if b then 10000 else 0, 0) | .fail n => (0, n) | .blank => (0, 0)
  | .text s => let t := Tab.parse (Lib.trimB s.data.toList 32); if t.2 then (t.1, 0) else (0, 3)
def V.short (n : Nat) : V → Prop | .text s => s.size ≤ n | _ => True
set_option maxRecDepth 100000 in
theorem asNumber_is (v : V) (n f : Int) (w : World) (hG : GM w) (hs : v.short 4294967) (h : v.asNum = (n, f)) :
    Calls Tryz.prog 27 #[v.val] w fun e w' => e = .returned (.tuple #[.int .i64 n, .int .i64 f]) ∧ Below w.heap.size w w' := by
  rcases v with a | s | (_ | _) | a | _
  case text =>
    have hs' : s.size ≤ 4294967 := hs
    obtain ⟨p, ok, hp⟩ : ∃ p ok, Tab.parse (Lib.trimB s.data.toList 32) = (p, ok) := ⟨_, _, rfl⟩
    have hz : (⟨(Lib.trimB s.data.toList 32).toArray⟩ : ByteArray).size < 4294967281 := by
      have := trimB_le s.data.toList 32
      rw [size_eq]
      show (Lib.trimB s.data.toList 32).length < _
      rw [← size_eq] at this
      omega
    have HT := Lib.hid fun w => trim_any s w (by omega)
    have HP := Lib.hid fun w hM => parse_is ⟨(Lib.trimB s.data.toList 32).toArray⟩ p ok w hM hz hp
    have hnf : (n, f) = if ok then (p, 0) else (0, 3) := by rw [← h]; simp [V.asNum, hp]
    clear h hz hp hs hs'
    generalize (Lib.trimB s.data.toList 32) = t at *
    simp only [V.val]
    cases ok <;> simp only [if_true, Bool.false_eq_true, if_false, Prod.mk.injEq] at hnf <;> obtain ⟨rfl, rfl⟩ := hnf <;>
    · go_enter Tryz.func27, Tryz.ntmps27
      go_wp2_with (first | (go_at_call 101; fail))
      go_at_call 101
      refine (HT.out _).mono ?_
      rintro e w1 ⟨rfl, hb1⟩
      have hM1 := hG.below hb1
      go_wp2_with (first | (go_at_call 100; fail))
      go_at_call 100
      refine (HP.out _ hM1).mono ?_
      rintro e w2 ⟨rfl, hb2⟩
      have hb12 := hb1.trans (hb2.mono hb1.size)
      go_wp2
      go_ret2
      exact ⟨rfl, hb12⟩
  all_goals
    simp only [V.asNum, if_true, Bool.false_eq_true, if_false, Prod.mk.injEq] at h
    obtain ⟨rfl, rfl⟩ := h
    clear hG hs
    simp only [V.val]
    go_enter Tryz.func27, Tryz.ntmps27
    go_wp2
    go_ret2
    exact ⟨rfl, by go_grown⟩
end Go.Proofs.YtkobkeopajohiaaGreatDoor
