/-
  VALUES: the interface values of package value: assertions on them, and the small functions over them.
  VALUES: one value as an argument, a value as a number, a number that is counted.
  PLAIN DATA AS VALUES: a number, a text.
  THE SHELF's CONTRACT of unicode/utf8.DecodeRuneInString at this dump, in plain words (printed by lay-shelf.mjs and lay-plain.mjs); and Signs.
  CONTRACT of token.Signs, at any text.
-/
import Derived.Test.YtkobkeopajohiaaGreatDoorCC
import Derived.Handy
import Derived.LoopTactic
import Derived.Shelf.Unicode.DecodeAny
import Derived.Lib.OthersKept
import Derived.WalkSmall
namespace Go.Proofs.YtkobkeopajohiaaGreatDoor
open Go.RowKit Go.Lib

@[go_sem] theorem as_num_num (v : Value) (w : World) : (Instr.typeAssert (.iface 80 v) 31 80 true).run Tryz.prog w = .ok (.tuple #[v, .bool true]) w := by kernel_rfl
@[go_sem] theorem is_num (v : Value) (w : World) : (Instr.typeAssert (.iface 80 v) 31 80 false).run Tryz.prog w = .ok v w := by kernel_rfl
@[go_sem] theorem as_num_text (v : Value) (w : World) : (Instr.typeAssert (.iface 80 v) 31 124 true).run Tryz.prog w = .ok (.tuple #[.string ByteArray.empty, .bool false]) w := by kernel_rfl
@[go_sem] theorem as_num_bool (v : Value) (w : World) : (Instr.typeAssert (.iface 80 v) 31 127 true).run Tryz.prog w = .ok (.tuple #[.bool false, .bool false]) w := by kernel_rfl
@[go_sem] theorem as_num_fail (v : Value) (w : World) : (Instr.typeAssert (.iface 80 v) 31 51 true).run Tryz.prog w = .ok (.tuple #[.int .i64 0, .bool false]) w := by kernel_rfl
@[go_sem] theorem as_num_blank (v : Value) (w : World) : (Instr.typeAssert (.iface 80 v) 31 143 true).run Tryz.prog w = .ok (.tuple #[.agg #[], .bool false]) w := by kernel_rfl
@[go_sem] theorem as_text_num (v : Value) (w : World) : (Instr.typeAssert (.iface 124 v) 31 80 true).run Tryz.prog w = .ok (.tuple #[.int .i64 0, .bool false]) w := by kernel_rfl
@[go_sem] theorem as_text_text (v : Value) (w : World) : (Instr.typeAssert (.iface 124 v) 31 124 true).run Tryz.prog w = .ok (.tuple #[v, .bool true]) w := by kernel_rfl
@[go_sem] theorem is_text (v : Value) (w : World) : (Instr.typeAssert (.iface 124 v) 31 124 false).run Tryz.prog w = .ok v w := by kernel_rfl
@[go_sem] theorem as_text_bool (v : Value) (w : World) : (Instr.typeAssert (.iface 124 v) 31 127 true).run Tryz.prog w = .ok (.tuple #[.bool false, .bool false]) w := by kernel_rfl
@[go_sem] theorem as_text_fail (v : Value) (w : World) : (Instr.typeAssert (.iface 124 v) 31 51 true).run Tryz.prog w = .ok (.tuple #[.int .i64 0, .bool false]) w := by kernel_rfl
@[go_sem] theorem as_text_blank (v : Value) (w : World) : (Instr.typeAssert (.iface 124 v) 31 143 true).run Tryz.prog w = .ok (.tuple #[.agg #[], .bool false]) w := by kernel_rfl
@[go_sem] theorem as_bool_num (v : Value) (w : World) : (Instr.typeAssert (.iface 127 v) 31 80 true).run Tryz.prog w = .ok (.tuple #[.int .i64 0, .bool false]) w := by kernel_rfl
@[go_sem] theorem as_bool_text (v : Value) (w : World) : (Instr.typeAssert (.iface 127 v) 31 124 true).run Tryz.prog w = .ok (.tuple #[.string ByteArray.empty, .bool false]) w := by kernel_rfl
@[go_sem] theorem as_bool_bool (v : Value) (w : World) : (Instr.typeAssert (.iface 127 v) 31 127 true).run Tryz.prog w = .ok (.tuple #[v, .bool true]) w := by kernel_rfl
@[go_sem] theorem is_bool (v : Value) (w : World) : (Instr.typeAssert (.iface 127 v) 31 127 false).run Tryz.prog w = .ok v w := by kernel_rfl
@[go_sem] theorem as_bool_fail (v : Value) (w : World) : (Instr.typeAssert (.iface 127 v) 31 51 true).run Tryz.prog w = .ok (.tuple #[.int .i64 0, .bool false]) w := by kernel_rfl
@[go_sem] theorem as_bool_blank (v : Value) (w : World) : (Instr.typeAssert (.iface 127 v) 31 143 true).run Tryz.prog w = .ok (.tuple #[.agg #[], .bool false]) w := by kernel_rfl
@[go_sem] theorem as_fail_num (v : Value) (w : World) : (Instr.typeAssert (.iface 51 v) 31 80 true).run Tryz.prog w = .ok (.tuple #[.int .i64 0, .bool false]) w := by kernel_rfl
@[go_sem] theorem as_fail_text (v : Value) (w : World) : (Instr.typeAssert (.iface 51 v) 31 124 true).run Tryz.prog w = .ok (.tuple #[.string ByteArray.empty, .bool false]) w := by kernel_rfl
@[go_sem] theorem as_fail_bool (v : Value) (w : World) : (Instr.typeAssert (.iface 51 v) 31 127 true).run Tryz.prog w = .ok (.tuple #[.bool false, .bool false]) w := by kernel_rfl
@[go_sem] theorem as_fail_fail (v : Value) (w : World) : (Instr.typeAssert (.iface 51 v) 31 51 true).run Tryz.prog w = .ok (.tuple #[v, .bool true]) w := by kernel_rfl
@[go_sem] theorem is_fail (v : Value) (w : World) : (Instr.typeAssert (.iface 51 v) 31 51 false).run Tryz.prog w = .ok v w := by kernel_rfl
@[go_sem] theorem as_fail_blank (v : Value) (w : World) : (Instr.typeAssert (.iface 51 v) 31 143 true).run Tryz.prog w = .ok (.tuple #[.agg #[], .bool false]) w := by kernel_rfl
@[go_sem] theorem as_blank_num (v : Value) (w : World) : (Instr.typeAssert (.iface 143 v) 31 80 true).run Tryz.prog w = .ok (.tuple #[.int .i64 0, .bool false]) w := by kernel_rfl
@[go_sem] theorem as_blank_text (v : Value) (w : World) : (Instr.typeAssert (.iface 143 v) 31 124 true).run Tryz.prog w = .ok (.tuple #[.string ByteArray.empty, .bool false]) w := by kernel_rfl
@[go_sem] theorem as_blank_bool (v : Value) (w : World) : (Instr.typeAssert (.iface 143 v) 31 127 true).run Tryz.prog w = .ok (.tuple #[.bool false, .bool false]) w := by kernel_rfl
@[go_sem] theorem as_blank_fail (v : Value) (w : World) : (Instr.typeAssert (.iface 143 v) 31 51 true).run Tryz.prog w = .ok (.tuple #[.int .i64 0, .bool false]) w := by kernel_rfl
@[go_sem] theorem as_blank_blank (v : Value) (w : World) : (Instr.typeAssert (.iface 143 v) 31 143 true).run Tryz.prog w = .ok (.tuple #[v, .bool true]) w := by kernel_rfl
@[go_sem] theorem is_blank (v : Value) (w : World) : (Instr.typeAssert (.iface 143 v) 31 143 false).run Tryz.prog w = .ok v w := by kernel_rfl

/-- a value, as the program's interface value holds it -/
inductive V where | num (n : Int) | text (s : ByteArray) | bool (b : Bool) | fail (n : Int) | blank
def V.val : V → Value
  | .num n => .iface 80 (.int .i64 n) | .text s => .iface 124 (.string s) | .bool b => .iface 127 (.bool b) | .fail n => .iface 51 (.int .i64 n) | .blank => .iface 143 (.agg #[])
def V.given : V → Int × Bool | .num n => (n, true) | _ => (0, false)
def V.rank : V → Int | .text _ => 1 | .bool _ => 2 | _ => 0
def V.isBlank : V → Bool | .blank => true | _ => false
def V.as : V → V → V
  | .blank, .text _ => .text ByteArray.empty | .blank, .bool _ => .bool false | .blank, _ => .num 0
  | v, _ => v
def V.failed : V → Int × Bool | .fail n => (n, true) | _ => (0, false)
def V.tell : V → Value
  | .num n => .agg #[.int .i64 1, .int .i64 n, .string ByteArray.empty] | .text s => .agg #[.int .i64 2, .int .i64 0, .string s]
  | .bool b => .agg #[.int .i64 3, .int .i64 (if b then 1 else 0), .string ByteArray.empty] | .fail n => .agg #[.int .i64 4, .int .i64 n, .string ByteArray.empty]
  | .blank => .agg #[.int .i64 0, .int .i64 0, .string ByteArray.empty]

theorem given_any (v : V) (w : World) :
    Calls Tryz.prog 89 #[v.val] w fun e w' => e = .returned (.tuple #[.int .i64 v.given.1, .bool v.given.2]) ∧ w = w' := by
  cases v <;> simp only [V.val, V.given] <;>
  · go_enter Tryz.func89, Tryz.ntmps89
    go_wp2
    go_ret2
    exact ⟨rfl, rfl⟩
theorem failed_any (v : V) (w : World) :
    Calls Tryz.prog 91 #[v.val] w fun e w' => e = .returned (.tuple #[.int .i64 v.failed.1, .bool v.failed.2]) ∧ w = w' := by
  cases v <;> simp only [V.val, V.failed] <;>
  · go_enter Tryz.func91, Tryz.ntmps91
    go_wp2
    go_ret2
    exact ⟨rfl, rfl⟩
theorem rank_any (v : V) (w : World) :
    Calls Tryz.prog 86 #[v.val] w fun e w' => e = .returned (.int .i64 v.rank) ∧ w = w' := by
  cases v <;> simp only [V.val, V.rank] <;>
  · go_enter Tryz.func86, Tryz.ntmps86
    go_wp2
    go_ret
    exact ⟨rfl, rfl⟩
theorem isBlank_any (v : V) (w : World) :
    Calls Tryz.prog 140 #[v.val] w fun e w' => e = .returned (.bool v.isBlank) ∧ Below w.heap.size w w' := by
  cases v <;> simp only [V.val, V.isBlank] <;>
  · go_enter Tryz.func140, Tryz.ntmps140
    go_wp2
    go_ret
    exact ⟨rfl, by go_grown⟩
theorem as_any (v o : V) (w : World) :
    Calls Tryz.prog 85 #[v.val, o.val] w fun e w' => e = .returned (v.as o).val ∧ Below w.heap.size w w' := by
  have HB := Lib.hid fun w => isBlank_any v w
  cases v <;> cases o <;> simp only [V.val, V.as, V.isBlank] at HB ⊢ <;>
  · go_enter Tryz.func85, Tryz.ntmps85
    go_wp2_with (first | (go_at_call 140; fail))
    go_at_call 140
    refine (HB.out _).mono ?_
    rintro e w' ⟨rfl, hb⟩
    go_wp2
    go_ret
    exact ⟨rfl, hb⟩
theorem tell_any (v : V) (w : World) :
    Calls Tryz.prog 37 #[v.val] w fun e w' => e = .returned v.tell ∧ Below w.heap.size w w' := by
  rcases v with _ | _ | (_ | _) | _ | _ <;> simp only [V.val, V.tell, if_true] <;>
  · go_enter Tryz.func37, Tryz.ntmps37
    go_wp2
    go_returns
    exact ⟨by rfl, by go_grown⟩
end Go.Proofs.YtkobkeopajohiaaGreatDoor
namespace Go.Proofs.YtkobkeopajohiaaGreatDoor
open Go.RowKit Go.Lib

def V.ty : V → TypeId | .num _ => 80 | .text _ => 124 | .bool _ => 127 | .fail _ => 51 | .blank => 143
def V.raw : V → Value | .num n => .int .i64 n | .text s => .string s | .bool b => .bool b | .fail n => .int .i64 n | .blank => .agg #[]
theorem V.val_eq (v : V) : v.val = .iface v.ty v.raw := by cases v <;> rfl

/-- block r is a cell that holds the value v, and lies there -/
def Held (w : World) (r : Nat) (v : V) : Prop := r < w.heap.size ∧ ∃ fr, w.heap[r]? = some (.cells #[v.val] 31 fr)
theorem Held.below {w w' : World} {r : Nat} {v : V} {B : Nat} (h : Held w r v) (hb : Below B w w') (hr : r < B) : Held w' r v :=
  ⟨Nat.lt_of_lt_of_le h.1 hb.size, h.2.imp fun _ e => (hb.block r hr).trans e⟩
theorem Held.cell {w : World} {r : Nat} {v : V} (h : Held w r v) : w.cell? ⟨r, 0, none⟩ = some (.iface v.ty v.raw) := by
  obtain ⟨_, fr, h⟩ := h
  simp [World.cell?, h, V.val_eq]
abbrev arg (r : Nat) : Value := .agg #[.int .i64 1, .int .i64 1, .bool false, .slice (some ⟨r, 0, none⟩) 1 1]

theorem last_block (w : World) (o : Obj) (k : Nat) (h : k = w.heap.size) : (w.alloc o).heap[k]? = some o := by
  subst h
  exact Array.getElem?_push_size
set_option maxRecDepth 100000 in
theorem one_any (v : V) (w : World) :
    Calls Tryz.prog 59 #[v.val] w fun e w' => ∃ r : Nat, e = .returned (arg r) ∧ w.heap.size ≤ r ∧ Held w' r v ∧ Below w.heap.size w w' := by
  simp only [Held, V.val_eq]
  generalize v.ty = t
  generalize v.raw = x
  go_enter Tryz.func59, Tryz.ntmps59
  go_wp2
  go_returns
  refine ⟨w.heap.size + 1, rfl, by omega, ⟨by simp, (0, 0), last_block _ _ _ (by simp)⟩, by go_grown⟩
set_option maxRecDepth 100000 in
theorem argValue_one (v : V) (r : Nat) (w : World) (h : Held w r v) :
    Calls Tryz.prog 79 #[arg r] w fun e w' => e = .returned v.val ∧ Below w.heap.size w w' := by
  have hr := h.1
  have hc := h.cell
  clear h
  rw [V.val_eq]
  generalize v.ty = t at *
  generalize v.raw = x at *
  have hc2 : (w.alloc (Obj.cells #[.int .i64 1, .int .i64 1, .bool false, .slice (some ⟨r, 0, none⟩) 1 1] 98)).cell? ⟨r, 0, none⟩ = some (.iface t x) := by
    rw [World.cell?_alloc_past _ _ _ hr]; exact hc
  go_enter Tryz.func79, Tryz.ntmps79
  go_wp2
  go_returns
  exact ⟨rfl, by go_grown⟩
set_option maxRecDepth 100000 in
theorem counted_yes (n : Int) (w : World) :
    Calls Tryz.prog 43 #[.int .i64 n, .bool true] w fun e w' => e = .returned (V.num n).val ∧ w = w' := by
  go_enter Tryz.func43, Tryz.ntmps43
  go_wp2
  go_returns
  exact ⟨rfl, rfl⟩
set_option maxRecDepth 100000 in
theorem counted_no (n : Int) (w : World) :
    Calls Tryz.prog 43 #[.int .i64 n, .bool false] w fun e w' => e = .returned (V.fail 2).val ∧ w = w' := by
  go_enter Tryz.func43, Tryz.ntmps43
  go_wp2
  go_returns
  exact ⟨rfl, rfl⟩
theorem trim_any (s : ByteArray) (w : World) (hs : s.size ≤ 9223372036854775807) :
    Calls Tryz.prog 101 #[.string s] w fun e w' => e = .returned (.string ⟨(Lib.trimB s.data.toList 32).toArray⟩) ∧ Below w.heap.size w w' := by
  have HT := Lib.hid fun w => Tryz.strings_Trim_one s 32 (by decide) w hs
  generalize (Lib.trimB s.data.toList 32) = t at *
  clear hs
  go_enter Tryz.func101, Tryz.ntmps101
  go_wp2_with (first | (go_at_call 145; fail))
  go_at_call 145
  refine (HT.out _).mono ?_
  rintro e w' ⟨rfl, rfl | rfl⟩
  · go_wp2
    go_returns
    exact ⟨rfl, by go_grown⟩
  · go_wp2
    go_returns
    exact ⟨rfl, by go_grown⟩
theorem trimB_le (l : List UInt8) (c : UInt8) : (Lib.trimB l c).length ≤ l.length := by
  unfold Lib.trimB Lib.trimLeftB Lib.trimRightB
  refine Nat.le_trans (List.dropWhile_suffix _).length_le ?_
  rw [List.length_reverse]
  refine Nat.le_trans (List.dropWhile_suffix _).length_le ?_
  rw [List.length_reverse]
  exact Nat.le_refl _
/-- what a value is as a number, and its failure (0: it is one) -/
def V.asNum : V → Int × Int
  | .num n => (n, 0) | .bool b => (if b then 10000 else 0, 0) | .fail n => (0, n) | .blank => (0, 0)
  | .text s => let t := Tab.parse (Lib.trimB s.data.toList 32); if t.2 then (t.1, 0) else (0, 3)
def V.short (n : Nat) : V → Prop | .text s => s.size ≤ n | _ => True
set_option maxRecDepth 100000 in
theorem asNumber_is (v : V) (n f : Int) (w : World) (hG : GM w) (hs : v.short 4294967) (h : v.asNum = (n, f)) :
    Calls Tryz.prog 27 #[v.val] w fun e w' => e = .returned (.tuple #[.int .i64 n, .int .i64 f]) ∧ Below w.heap.size w w' := by
  rcases v with a | s | (_ | _) | a | _
  case text =>
    have hs' : s.size ≤ 4294967 := hs
    obtain ⟨p, ok, hp⟩ : ∃ p ok, Tab.parse (Lib.trimB s.data.toList 32) = (p, ok) := ⟨_, _, rfl⟩
    have hz : (⟨(Lib.trimB s.data.toList 32).toArray⟩ : ByteArray).size < 4294967281 := by
      have := trimB_le s.data.toList 32
      rw [size_eq]
      show (Lib.trimB s.data.toList 32).length < _
      rw [← size_eq] at this
      omega
    have HT := Lib.hid fun w => trim_any s w (by omega)
    have HP := Lib.hid fun w hM => parse_is ⟨(Lib.trimB s.data.toList 32).toArray⟩ p ok w hM hz hp
    have hnf : (n, f) = if ok then (p, 0) else (0, 3) := by rw [← h]; simp [V.asNum, hp]
    clear h hz hp hs hs'
    generalize (Lib.trimB s.data.toList 32) = t at *
    simp only [V.val]
    cases ok <;> simp only [if_true, Bool.false_eq_true, if_false, Prod.mk.injEq] at hnf <;> obtain ⟨rfl, rfl⟩ := hnf <;>
    · go_enter Tryz.func27, Tryz.ntmps27
      go_wp2_with (first | (go_at_call 101; fail))
      go_at_call 101
      refine (HT.out _).mono ?_
      rintro e w1 ⟨rfl, hb1⟩
      have hM1 := hG.below hb1
      go_wp2_with (first | (go_at_call 100; fail))
      go_at_call 100
      refine (HP.out _ hM1).mono ?_
      rintro e w2 ⟨rfl, hb2⟩
      have hb12 := hb1.trans (hb2.mono hb1.size)
      go_wp2
      go_ret2
      exact ⟨rfl, hb12⟩
  all_goals
    simp only [V.asNum, if_true, Bool.false_eq_true, if_false, Prod.mk.injEq] at h
    obtain ⟨rfl, rfl⟩ := h
    clear hG hs
    simp only [V.val]
    go_enter Tryz.func27, Tryz.ntmps27
    go_wp2
    go_ret2
    exact ⟨rfl, by go_grown⟩
end Go.Proofs.YtkobkeopajohiaaGreatDoor
namespace Go.Proofs.YtkobkeopajohiaaGreatDoor
open Go.RowKit Go.Lib

set_option maxRecDepth 1000000 in
theorem signs_six (w : World) :
    Calls Tryz.prog 125 #[.string ⟨#[54]⟩] w fun e w' => e = .returned (.tuple #[.int .i64 1, .bool true]) ∧ Below w.heap.size w w' := by
  have hx : ∀ ty, (Instr.next (.pointer (some ⟨w.heap.size, 0, none⟩)) true ty).run Tryz.prog (w.iter ⟨#[54]⟩ 0) = .ok (.tuple #[.bool true, .int .i64 0, .int .i32 54]) (w.iter ⟨#[54]⟩ 1) := fun ty => run_next_ascii w ⟨#[54]⟩ 0 ty (by decide) (by decide)
  have hy : ∀ ty, (Instr.next (.pointer (some ⟨w.heap.size, 0, none⟩)) true ty).run Tryz.prog (w.iter ⟨#[54]⟩ 1) = .ok (.tuple #[.bool false]) (w.iter ⟨#[54]⟩ 1) := fun ty => run_next_end w ⟨#[54]⟩ 1 ty (by decide)
  go_enter Tryz.func125, Tryz.ntmps125
  go_wp2
  refine wp_loop_rounds 3 ?_
  rw [rounds_succ]
  go_wp2
  rw [rounds_succ]
  go_wp2
  go_ret2
  exact ⟨rfl, (Below.refl _ _).alloc (Nat.le_refl _) _⟩
set_option maxRecDepth 100000 in
theorem of_num (n : Int) (w : World) (s : ByteArray) (h : -999999999999999999 ≤ n ∧ n ≤ 999999999999999999) :
    Calls Tryz.prog 60 #[.agg #[.int .i64 1, .int .i64 n, .string s]] w fun e w' => e = .returned (V.num n).val ∧ Below w.heap.size w w' := by
  have HG := Lib.hid fun w => good_yes n w h
  clear h
  go_enter Tryz.func60, Tryz.ntmps60
  go_wp2_with (first | (go_at_call 124; refine (HG.out _).mono ?_; rintro e w' ⟨rfl, rfl⟩))
  go_ret
  exact ⟨rfl, by go_grown⟩
set_option maxRecDepth 100000 in
theorem of_text (m n : Int) (s : ByteArray) (w : World) (hs : ∀ w, Calls Tryz.prog 125 #[.string s] w fun e w' => e = .returned (.tuple #[.int .i64 m, .bool true]) ∧ Below w.heap.size w w') (hz : s.size ≤ 2000) :
    Calls Tryz.prog 60 #[.agg #[.int .i64 2, .int .i64 n, .string s]] w fun e w' => e = .returned (V.text s).val ∧ Below w.heap.size w w' := by
  have HS := Lib.hid hs
  clear hs
  go_enter Tryz.func60, Tryz.ntmps60
  go_wp2_with (first | (go_at_call 125; fail))
  go_at_call 125
  refine (HS.out _).mono ?_
  rintro e w1 ⟨rfl, hb⟩
  have hc0 : w1.cell? ⟨w.heap.size, 2, none⟩ = some (.string s) := (hb.cell (by simp)).trans (by rw [World.cell?_alloc_at _ _ _ _ rfl]; rfl)
  have hb' : Below w.heap.size w w1 := ((Below.refl _ _).alloc (Nat.le_refl _) _).trans (hb.mono (by simp))
  clear hb
  go_wp2
  go_ret
  exact ⟨rfl, hb'⟩
end Go.Proofs.YtkobkeopajohiaaGreatDoor
namespace Go.Proofs
open Go.Shelf
def Tryz.lays197_ren : Go.Shelf.Ren := ⟨fun | 197 => 149 | 260 => 163 | n => n, fun | 9 => 9 | 21 => 21 | 3 => 3 | 4 => 4 | 5 => 5 | 105 => 177 | 119 => 200 | 0 => 0 | 46 => 158 | 139 => 203 | 138 => 202 | n => n, fun | 3 => 4 | 4 => 5 | n => n⟩
theorem Tryz.lays197 : Go.Proofs.Lays.n197 Tryz.prog Tryz.lays197_ren := {
  mixed := by kernel_rfl
  f197 := Tryz.func149.trans (congrArg some (by kernel_rfl))
  f260 := Tryz.func163.trans (congrArg some (by kernel_rfl))
  t0 := Tryz.underlying0
  a0 := Tryz.isAgg0
  z0 := Tryz.sizeOf0
  v0 := Tryz.zeroValue0
  t3 := Tryz.underlying3
  a3 := Tryz.isAgg3
  z3 := Tryz.sizeOf3
  v3 := Tryz.zeroValue3
  t4 := Tryz.underlying4
  a4 := Tryz.isAgg4
  z4 := Tryz.sizeOf4
  v4 := Tryz.zeroValue4
  t5 := Tryz.underlying5
  a5 := Tryz.isAgg5
  z5 := Tryz.sizeOf5
  v5 := Tryz.zeroValue5
  t9 := Tryz.underlying9
  a9 := Tryz.isAgg9
  z9 := Tryz.sizeOf9
  v9 := Tryz.zeroValue9
  t21 := Tryz.underlying21
  a21 := Tryz.isAgg21
  z21 := Tryz.sizeOf21
  v21 := Tryz.zeroValue21
  t46 := Tryz.underlying158
  a46 := Tryz.isAgg158
  z46 := Tryz.sizeOf158
  v46 := Tryz.zeroValue158
  t105 := Tryz.underlying177
  a105 := Tryz.isAgg177
  z105 := Tryz.sizeOf177
  v105 := Tryz.zeroValue177
  t119 := Tryz.underlying200
  a119 := Tryz.isAgg200
  z119 := Tryz.sizeOf200
  t138 := Tryz.underlying202
  a138 := Tryz.isAgg202
  z138 := Tryz.sizeOf202
  v138 := Tryz.zeroValue202
  t139 := Tryz.underlying203
  a139 := Tryz.isAgg203
  z139 := Tryz.sizeOf203
  v139 := Tryz.zeroValue203
  g3 := by kernel_rfl
  g4 := by kernel_rfl }
open Go.RowKit Go.Lib in
theorem Tryz.utf8_DecodeRuneInString (s : ByteArray) (w : World) (hT : Lib.Utf8Tabs 4 5 w) :
    Calls Tryz.prog 149 #[.string s] w fun e w' => e = .returned (.tuple #[.int .i32 (Lib.decodeGo s).1, .int .i64 (Lib.decodeGo s).2]) ∧ Below w.heap.size w w' := Any.utf8_DecodeRuneInString Tryz.lays197 s w hT
end Go.Proofs
namespace Go.Proofs.YtkobkeopajohiaaGreatDoor
open Go.RowKit Go.Lib

theorem tabs_below {w w' : World} {B : Nat} (h : Lib.Utf8Tabs 4 5 w) (hb : Below B w w') (hB : 5 < B) : Lib.Utf8Tabs 4 5 w' :=
  ⟨fun c hc => (hb.cell (by simp; omega)).trans (h.1 c hc), fun i hi => ⟨(hb.cell hB).trans (h.2 i hi).1, (hb.cell hB).trans (h.2 i hi).2⟩⟩
theorem decode_zero (s : ByteArray) (h : 0 < s.size) : Lib.decodeGo s = Utf8.decode s 0 := by
  unfold Lib.decodeGo; rw [if_neg (by omega)]
theorem width_pos (s : ByteArray) (pos : Nat) (h : pos < s.size) : 1 ≤ (Utf8.decode s pos).2 := by
  by_cases ha : (s[pos]'h).toNat < 128
  · rw [decode_ascii s pos h ha]
    exact Nat.le_refl _
  · exact (decode_high s pos h (by omega)).2
set_option maxRecDepth 100000 in
theorem errors_any (w : World) :
    Calls Tryz.prog 111 #[] w fun e w' => ∃ g, e = .returned (.slice (some ⟨g, 0, none⟩) 7 7) ∧ Below w.heap.size w w' := by
  go_enter Tryz.func111, Tryz.ntmps111
  go_wp2
  go_ret
  exact ⟨_, rfl, by go_grown⟩
end Go.Proofs.YtkobkeopajohiaaGreatDoor
namespace Go.Proofs.YtkobkeopajohiaaGreatDoor
open Go.RowKit Go.Lib

/-- at a place there is no sign -/
def badAt (s : ByteArray) (pos : Nat) : Bool := (Utf8.decode s pos).1 == 65533 && (Utf8.decode (s.extract pos s.size) 0).2 == 1
def signsFrom (s : ByteArray) : Nat → Nat → Int → Int × Bool
  | 0, _, n => (n, true)
  | f + 1, pos, n => if pos < s.size then (if badAt s pos then (0, false) else signsFrom s f (pos + (Utf8.decode s pos).2) (n + 1)) else (n, true)

set_option maxHeartbeats 1600000 in
set_option maxRecDepth 1000000 in
theorem signs_any (s : ByteArray) (w : World) (hT : Lib.Utf8Tabs 4 5 w) (h7 : 5 < w.heap.size) (hs : s.size < 9223372036854775807) (R : Int × Bool) (hR : signsFrom s s.size 0 0 = R) :
    Calls Tryz.prog 125 #[.string s] w fun e w' => e = .returned (.tuple #[.int .i64 R.1, .bool R.2]) ∧ Below w.heap.size w w' := by
  have HR := Lib.hid hR
  clear hR
  go_enter Tryz.func125, Tryz.ntmps125
  go_wp2
  go_loopw [4] (fun n wr => ∃ (pos b : Nat) (acc : Int), n = .int .i64 acc ∧ Hid (wr.heap[w.heap.size]? = some (.stringIter s pos)) ∧ w.heap.size < wr.heap.size ∧ Hid (signsFrom s b pos acc = R) ∧ s.size ≤ pos + b ∧ 0 ≤ acc ∧ acc ≤ pos ∧ Hid (Below w.heap.size w wr))
    (fun _ wr => s.size - wr.iterPos w.heap.size)
  case atStart => exact ⟨0, s.size, 0, rfl, Lib.hid (last_block _ _ _ rfl), by simp [World.iter], Lib.hid HR.out, by omega, by omega, by omega, Lib.hid ((Below.refl _ _).alloc (Nat.le_refl _) _)⟩
  case round =>
    obtain ⟨pos, b, acc, rfl, hit, hlt, hinv, hb, ha0, ha1, hbl⟩ := hrel
    by_cases hp : pos < s.size
    · have hnx := fun ty => run_next_any_at (P := Tryz.prog) wr w.heap.size s pos ty hit.out hp
      have hwd := width_pos s pos hp
      have hle := decode_le s pos
      obtain ⟨f, rfl⟩ : ∃ f, b = f + 1 := ⟨b - 1, by omega⟩
      have hst : Hid ((if badAt s pos then ((0, false) : Int × Bool) else signsFrom s f (pos + (Utf8.decode s pos).2) (acc + 1)) = R) := Lib.hid (by have := hinv.out; unfold signsFrom at this; rw [if_pos hp] at this; exact this)
      have hit2 := Lib.hid (iterAt_heap wr w.heap.size s pos (pos + (Utf8.decode s pos).2) hit.out)
      have hbl2 : Hid (Below w.heap.size w (wr.iterAt w.heap.size s (pos + (Utf8.decode s pos).2))) := Lib.hid (hbl.out.trans ⟨rfl, rfl, rfl, by rw [iterAt_size]; exact Nat.le_refl _, fun i hi => iterAt_other wr w.heap.size i s _ (by omega)⟩)
      have hsz2 : Hid ((wr.iterAt w.heap.size s (pos + (Utf8.decode s pos).2)).heap.size = wr.heap.size) := Lib.hid (iterAt_size ..)
      obtain ⟨wi, hwi⟩ : ∃ wi, wr.iterAt w.heap.size s (pos + (Utf8.decode s pos).2) = wi := ⟨_, rfl⟩
      rw [hwi] at hnx hit2 hbl2 hsz2
      have hbad : Hid (badAt s pos = ((Utf8.decode s pos).1 == 65533 && (Utf8.decode (s.extract pos s.size) 0).2 == 1)) := Lib.hid rfl
      obtain ⟨a, ha⟩ : ∃ a, (Utf8.decode s pos).1 = a := ⟨_, rfl⟩
      obtain ⟨d, hd⟩ : ∃ d, (Utf8.decode s pos).2 = d := ⟨_, rfl⟩
      rw [ha] at hnx hle hbad
      rw [hd] at hst hit2 hwd
      clear hwi ha hd hbl hinv
      by_cases h65 : a = 65533
      · subst h65
        obtain ⟨x, hx⟩ : ∃ x, s.extract pos s.size = x := ⟨_, rfl⟩
        have hx0 : 0 < x.size := by
          rw [← hx, size_eq, extract_data, List.length_take, List.length_drop, ← size_eq]; omega
        have HD := Lib.hid fun w hT => Tryz.utf8_DecodeRuneInString x w hT
        rw [decode_zero x hx0] at HD
        rw [hx] at hbad
        obtain ⟨u, hu⟩ : ∃ u, (Utf8.decode x 0).2 = u := ⟨_, rfl⟩
        rw [hu] at HD hbad
        have HX := Lib.hid hx
        clear hx hu hx0
        go_wp2_with (first | (go_at_call 149; fail))
        rw [HX.out]
        go_at_call 149
        refine (HD.out _ (tabs_below hT hbl2.out h7)).mono ?_
        rintro e w1 ⟨rfl, hb1⟩
        have hlt1 : w.heap.size < wi.heap.size := by rw [hsz2.out]; exact hlt
        have hbl3 := Lib.hid (hbl2.out.trans (hb1.mono (Nat.le_of_lt hlt1)))
        have hit3 := Lib.hid ((hb1.block w.heap.size hlt1).trans hit2.out)
        have hlt3 : w.heap.size < w1.heap.size := Nat.lt_of_lt_of_le hlt1 hb1.size
        clear hb1 hit2 hbl2 hlt1 hsz2 hnx
        by_cases hu : u = 1
        · subst hu
          have hRR : Hid (R = (0, false)) := Lib.hid (by rw [← hst.out, hbad.out]; rfl)
          go_wp2
          go_ret2
          exact ⟨by rw [hRR.out]; rfl, hbl3.out⟩
        · have hu1 : ¬ ((u : Int) = 1) := by omega
          have hRR : Hid (signsFrom s f (pos + d) (acc + 1) = R) := Lib.hid (by
            have := hst.out
            rw [hbad.out, show ((65533 : Nat) == 65533 && u == 1) = false by simp [hu]] at this
            exact this)
          go_wp2
          go_roundw
          case rel => exact ⟨pos + d, f, acc + 1, rfl, hit3, hlt3, hRR, by omega, by omega, by omega, hbl3⟩
          case measure => rw [iterPos_of hit3.out, iterPos_of hit.out]; omega
      · have hne : ¬ ((a : Int) = 65533) := by omega
        have hRR : Hid (signsFrom s f (pos + d) (acc + 1) = R) := Lib.hid (by
          have := hst.out
          rw [hbad.out, show (a == 65533) = false by simp [h65]] at this
          exact this)
        have hlt1 : w.heap.size < wi.heap.size := by rw [hsz2.out]; exact hlt
        go_wp2
        go_roundw
        case rel => exact ⟨pos + d, f, acc + 1, rfl, hit2, hlt1, hRR, by omega, by omega, by omega, hbl2⟩
        case measure => rw [iterPos_of hit2.out, iterPos_of hit.out]; omega
    · have hnx := fun ty => run_next_end_at (P := Tryz.prog) wr w.heap.size s pos ty hit.out hp
      have hRR : Hid (R = (acc, true)) := Lib.hid (by
        rw [← hinv.out]
        cases b with
        | zero => rfl
        | succ b => unfold signsFrom; rw [if_neg hp])
      go_wp2
      go_ret2
      exact ⟨by rw [hRR.out]; rfl, hbl.out⟩
end Go.Proofs.YtkobkeopajohiaaGreatDoor
