/-
  VALUES: the interface values of package value: assertions on them, and the small functions over them.
-/
import Derived.Test.YtkobkeopajohiaaGreatDoorC5
import Derived.Handy
namespace Go.Proofs.YtkobkeopajohiaaGreatDoor
open Go.RowKit Go.Lib

@[go_sem] theorem as_num_num (v : Value) (w : World) : (Instr.typeAssert (.iface 80 v) 31 80 true).run Tryz.prog w = .ok (.tuple #[v, .bool true]) w := by kernel_rfl
@[go_sem] theorem is_num (v : Value) (w : World) : (Instr.typeAssert (.iface 80 v) 31 80 false).run Tryz.prog w = .ok v w := by kernel_rfl
@[go_sem] theorem as_num_text (v : Value) (w : World) : (Instr.typeAssert (.iface 80 v) 31 124 true).run Tryz.prog w = .ok (.tuple #[.string ByteArray.empty, .bool false]) w := by kernel_rfl
@[go_sem] theorem as_num_bool (v : Value) (w : World) : (Instr.typeAssert (.iface 80 v) 31 127 true).run Tryz.prog w = .ok (.tuple #[.bool false, .bool false]) w := by kernel_rfl
@[go_sem] theorem as_num_fail (v : Value) (w : World) : (Instr.typeAssert (.iface 80 v) 31 51 true).run Tryz.prog w = .ok (.tuple #[.int .i64 0, .bool false]) w := by kernel_rfl
@[go_sem] theorem as_num_blank (v : Value) (w : World) : (Instr.typeAssert (.iface 80 v) 31 143 true).run Tryz.prog w = .ok (.tuple #[.agg #[], .bool false]) w := by kernel_rfl
@[go_sem] theorem as_text_num (v : Value) (w : World) : (Instr.typeAssert (.iface 124 v) 31 80 true).run Tryz.prog w = .ok (.tuple #[.int .i64 0, .bool false]) w := by kernel_rfl
@[go_sem] theorem as_text_text (v : Value) (w : World) : (Instr.typeAssert (.iface 124 v) 31 124 true).run Tryz.prog w = .ok (.tuple #[v, .bool true]) w := by kernel_rfl
@[go_sem] theorem is_text (v : Value) (w : World) : (Instr.typeAssert (.iface 124 v) 31 124 false).run Tryz.prog w = .ok v w := by kernel_rfl
@[go_sem] theorem as_text_bool (v : Value) (w : World) : (Instr.typeAssert (.iface 124 v) 31 127 true).run Tryz.prog w = .ok (.tuple #[.bool false, .bool false]) w := by kernel_rfl
@[go_sem] theorem as_text_fail (v : Value) (w : World) : (Instr.typeAssert (.iface 124 v) 31 51 true).run Tryz.prog w = .ok (.tuple #[.int .i64 0, .bool false]) w := by kernel_rfl
@[go_sem] theorem as_text_blank (v : Value) (w : World) : (Instr.typeAssert (.iface 124 v) 31 143 true).run Tryz.prog w = .ok (.tuple #[.agg #[], .bool false]) w := by kernel_rfl
@[go_sem] theorem as_bool_num (v : Value) (w : World) : (Instr.typeAssert (.iface 127 v) 31 80 true).run Tryz.prog w = .ok (.tuple #[.int .i64 0, .bool false]) w := by kernel_rfl
@[go_sem] theorem as_bool_text (v : Value) (w : World) : (Instr.typeAssert (.iface 127 v) 31 124 true).run Tryz.prog w = .ok (.tuple #[.string ByteArray.empty, .bool false]) w := by kernel_rfl
@[go_sem] theorem as_bool_bool (v : Value) (w : World) : (Instr.typeAssert (.iface 127 v) 31 127 true).run Tryz.prog w = .ok (.tuple #[v, .bool true]) w := by kernel_rfl
@[go_sem] theorem is_bool (v : Value) (w : World) : (Instr.typeAssert (.iface 127 v) 31 127 false).run Tryz.prog w = .ok v w := by kernel_rfl
@[go_sem] theorem as_bool_fail (v : Value) (w : World) : (Instr.typeAssert (.iface 127 v) 31 51 true).run Tryz.prog w = .ok (.tuple #[.int .i64 0, .bool false]) w := by kernel_rfl
@[go_sem] theorem as_bool_blank (v : Value) (w : World) : (Instr.typeAssert (.iface 127 v) 31 143 true).run Tryz.prog w = .ok (.tuple #[.agg #[], .bool false]) w := by kernel_rfl
@[go_sem] theorem as_fail_num (v : Value) (w : World) : (Instr.typeAssert (.iface 51 v) 31 80 true).run Tryz.prog w = .ok (.tuple #[.int .i64 0, .bool false]) w := by kernel_rfl
@[go_sem] theorem as_fail_text (v : Value) (w : World) : (Instr.typeAssert (.iface 51 v) 31 124 true).run Tryz.prog w = .ok (.tuple #[.string ByteArray.empty, .bool false]) w := by kernel_rfl
@[go_sem] theorem as_fail_bool (v : Value) (w : World) : (Instr.typeAssert (.iface 51 v) 31 127 true).run Tryz.prog w = .ok (.tuple #[.bool false, .bool false]) w := by kernel_rfl
@[go_sem] theorem as_fail_fail (v : Value) (w : World) : (Instr.typeAssert (.iface 51 v) 31 51 true).run Tryz.prog w = .ok (.tuple #[v, .bool true]) w := by kernel_rfl
@[go_sem] theorem is_fail (v : Value) (w : World) : (Instr.typeAssert (.iface 51 v) 31 51 false).run Tryz.prog w = .ok v w := by kernel_rfl
@[go_sem] theorem as_fail_blank (v : Value) (w : World) : (Instr.typeAssert (.iface 51 v) 31 143 true).run Tryz.prog w = .ok (.tuple #[.agg #[], .bool false]) w := by kernel_rfl
@[go_sem] theorem as_blank_num (v : Value) (w : World) : (Instr.typeAssert (.iface 143 v) 31 80 true).run Tryz.prog w = .ok (.tuple #[.int .i64 0, .bool false]) w := by kernel_rfl
@[go_sem] theorem as_blank_text (v : Value) (w : World) : (Instr.typeAssert (.iface 143 v) 31 124 true).run Tryz.prog w = .ok (.tuple #[.string ByteArray.empty, .bool false]) w := by kernel_rfl
@[go_sem] theorem as_blank_bool (v : Value) (w : World) : (Instr.typeAssert (.iface 143 v) 31 127 true).run Tryz.prog w = .ok (.tuple #[.bool false, .bool false]) w := by kernel_rfl
@[go_sem] theorem as_blank_fail (v : Value) (w : World) : (Instr.typeAssert (.iface 143 v) 31 51 true).run Tryz.prog w = .ok (.tuple #[.int .i64 0, .bool false]) w := by kernel_rfl
@[go_sem] theorem as_blank_blank (v : Value) (w : World) : (Instr.typeAssert (.iface 143 v) 31 143 true).run Tryz.prog w = .ok (.tuple #[v, .bool true]) w := by kernel_rfl
@[go_sem] theorem is_blank (v : Value) (w : World) : (Instr.typeAssert (.iface 143 v) 31 143 false).run Tryz.prog w = .ok v w := by kernel_rfl

/-- a value, as the program's interface value holds it -/
inductive V where | num (n : Int) | text (s : ByteArray) | bool (b : Bool) | fail (n : Int) | blank
def V.val : V → Value
  | .num n => .iface 80 (.int .i64 n) | .text s => .iface 124 (.string s) | .bool b => .iface 127 (.bool b) | .fail n => .iface 51 (.int .i64 n) | .blank => .iface 143 (.agg #[])
def V.given : V → Int × Bool | .num n => (n, true) | _ => (0, false)
def V.rank : V → Int | .text _ => 1 | .bool _ => 2 | _ => 0
def V.isBlank : V → Bool | .blank => true | _ => false
def V.as : V → V → V
  | .blank, .text _ => .text ByteArray.empty | .blank, .bool _ => .bool false | .blank, _ => .num 0
  | v, _ => v
def V.failed : V → Int × Bool | .fail n => (n, true) | _ => (0, false)
def V.tell : V → Value
  | .num n => .agg #[.int .i64 1, .int .i64 n, .string ByteArray.empty] | .text s => .agg #[.int .i64 2, .int .i64 0, .string s]
  | .bool b => .agg #[.int .i64 3, .int .i64 (if b then 1 else 0), .string ByteArray.empty] | .fail n => .agg #[.int .i64 4, .int .i64 n, .string ByteArray.empty]
  | .blank => .agg #[.int .i64 0, .int .i64 0, .string ByteArray.empty]

theorem given_any (v : V) (w : World) :
    Calls Tryz.prog 89 #[v.val] w fun e w' => e = .returned (.tuple #[.int .i64 v.given.1, .bool v.given.2]) ∧ w = w' := by
  cases v <;> simp only [V.val, V.given] <;>
  · go_enter Tryz.func89, Tryz.ntmps89
    go_wp2
    go_ret2
    exact ⟨rfl, rfl⟩
theorem failed_any (v : V) (w : World) :
    Calls Tryz.prog 91 #[v.val] w fun e w' => e = .returned (.tuple #[.int .i64 v.failed.1, .bool v.failed.2]) ∧ w = w' := by
  cases v <;> simp only [V.val, V.failed] <;>
  · go_enter Tryz.func91, Tryz.ntmps91
    go_wp2
    go_ret2
    exact ⟨rfl, rfl⟩
theorem rank_any (v : V) (w : World) :
    Calls Tryz.prog 86 #[v.val] w fun e w' => e = .returned (.int .i64 v.rank) ∧ w = w' := by
  cases v <;> simp only [V.val, V.rank] <;>
  · go_enter Tryz.func86, Tryz.ntmps86
    go_wp2
    go_ret
    exact ⟨rfl, rfl⟩
theorem isBlank_any (v : V) (w : World) :
    Calls Tryz.prog 140 #[v.val] w fun e w' => e = .returned (.bool v.isBlank) ∧ Below w.heap.size w w' := by
  cases v <;> simp only [V.val, V.isBlank] <;>
  · go_enter Tryz.func140, Tryz.ntmps140
    go_wp2
    go_ret
    exact ⟨rfl, by go_grown⟩
theorem as_any (v o : V) (w : World) :
    Calls Tryz.prog 85 #[v.val, o.val] w fun e w' => e = .returned (v.as o).val ∧ Below w.heap.size w w' := by
  have HB := Lib.hid fun w => isBlank_any v w
  cases v <;> cases o <;> simp only [V.val, V.as, V.isBlank] at HB ⊢ <;>
  · go_enter Tryz.func85, Tryz.ntmps85
    go_wp2_with (first | (go_at_call 140; fail))
    go_at_call 140
    refine (HB.out _).mono ?_
    rintro e w' ⟨rfl, hb⟩
    go_wp2
    go_ret
    exact ⟨rfl, hb⟩
theorem tell_any (v : V) (w : World) :
    Calls Tryz.prog 37 #[v.val] w fun e w' => e = .returned v.tell ∧ Below w.heap.size w w' := by
  rcases v with _ | _ | (_ | _) | _ | _ <;> simp only [V.val, V.tell, if_true] <;>
  · go_enter Tryz.func37, Tryz.ntmps37
    go_wp2
    go_returns
    exact ⟨by rfl, by go_grown⟩
end Go.Proofs.YtkobkeopajohiaaGreatDoor
