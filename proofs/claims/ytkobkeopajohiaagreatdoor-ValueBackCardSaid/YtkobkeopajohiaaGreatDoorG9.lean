/-
  CONTRACT of the helper awake of layer 15: it answers true.
-/
import Derived.Test.YtkobkeopajohiaaGreatDoorG8
namespace Go.Proofs.YtkobkeopajohiaaGreatDoor
open Go.RowKit Go.Lib

theorem in_two : Tab.parse (Lib.trimB (ByteArray.mk #[50]).data.toList 32) = (20000, true) := by decide +kernel
theorem in_one : Tab.parse (Lib.trimB (ByteArray.mk #[49]).data.toList 32) = (10000, true) := by decide +kernel
theorem cmp_bA : (V.text ⟨#[98]⟩).cmp (.text ⟨#[65]⟩) = 1 := by decide +kernel
set_option maxRecDepth 1000000 in
theorem signs_b (w : World) :
    Calls Tryz.prog 125 #[.string ⟨#[98]⟩] w fun e w' => e = .returned (.tuple #[.int .i64 1, .bool true]) ∧ Below w.heap.size w w' := by
  have hx : ∀ ty, (Instr.next (.pointer (some ⟨w.heap.size, 0, none⟩)) true ty).run Tryz.prog (w.iter ⟨#[98]⟩ 0) = .ok (.tuple #[.bool true, .int .i64 0, .int .i32 98]) (w.iter ⟨#[98]⟩ 1) := fun ty => run_next_ascii w ⟨#[98]⟩ 0 ty (by decide) (by decide)
  have hy : ∀ ty, (Instr.next (.pointer (some ⟨w.heap.size, 0, none⟩)) true ty).run Tryz.prog (w.iter ⟨#[98]⟩ 1) = .ok (.tuple #[.bool false]) (w.iter ⟨#[98]⟩ 1) := fun ty => run_next_end w ⟨#[98]⟩ 1 ty (by decide)
  go_enter Tryz.func125, Tryz.ntmps125
  go_wp2
  refine wp_loop_rounds 3 ?_
  rw [rounds_succ]
  go_wp2
  rw [rounds_succ]
  go_wp2
  go_ret2
  exact ⟨rfl, (Below.refl _ _).alloc (Nat.le_refl _) _⟩
set_option maxRecDepth 1000000 in
theorem signs_A (w : World) :
    Calls Tryz.prog 125 #[.string ⟨#[65]⟩] w fun e w' => e = .returned (.tuple #[.int .i64 1, .bool true]) ∧ Below w.heap.size w w' := by
  have hx : ∀ ty, (Instr.next (.pointer (some ⟨w.heap.size, 0, none⟩)) true ty).run Tryz.prog (w.iter ⟨#[65]⟩ 0) = .ok (.tuple #[.bool true, .int .i64 0, .int .i32 65]) (w.iter ⟨#[65]⟩ 1) := fun ty => run_next_ascii w ⟨#[65]⟩ 0 ty (by decide) (by decide)
  have hy : ∀ ty, (Instr.next (.pointer (some ⟨w.heap.size, 0, none⟩)) true ty).run Tryz.prog (w.iter ⟨#[65]⟩ 1) = .ok (.tuple #[.bool false]) (w.iter ⟨#[65]⟩ 1) := fun ty => run_next_end w ⟨#[65]⟩ 1 ty (by decide)
  go_enter Tryz.func125, Tryz.ntmps125
  go_wp2
  refine wp_loop_rounds 3 ?_
  rw [rounds_succ]
  go_wp2
  rw [rounds_succ]
  go_wp2
  go_ret2
  exact ⟨rfl, (Below.refl _ _).alloc (Nat.le_refl _) _⟩
set_option maxRecDepth 1000000 in
theorem signs_1 (w : World) :
    Calls Tryz.prog 125 #[.string ⟨#[49]⟩] w fun e w' => e = .returned (.tuple #[.int .i64 1, .bool true]) ∧ Below w.heap.size w w' := by
  have hx : ∀ ty, (Instr.next (.pointer (some ⟨w.heap.size, 0, none⟩)) true ty).run Tryz.prog (w.iter ⟨#[49]⟩ 0) = .ok (.tuple #[.bool true, .int .i64 0, .int .i32 49]) (w.iter ⟨#[49]⟩ 1) := fun ty => run_next_ascii w ⟨#[49]⟩ 0 ty (by decide) (by decide)
  have hy : ∀ ty, (Instr.next (.pointer (some ⟨w.heap.size, 0, none⟩)) true ty).run Tryz.prog (w.iter ⟨#[49]⟩ 1) = .ok (.tuple #[.bool false]) (w.iter ⟨#[49]⟩ 1) := fun ty => run_next_end w ⟨#[49]⟩ 1 ty (by decide)
  go_enter Tryz.func125, Tryz.ntmps125
  go_wp2
  refine wp_loop_rounds 3 ?_
  rw [rounds_succ]
  go_wp2
  rw [rounds_succ]
  go_wp2
  go_ret2
  exact ⟨rfl, (Below.refl _ _).alloc (Nat.le_refl _) _⟩

theorem app_one : (ByteArray.mk #[39]) ++ (ByteArray.mk #[49]) = ⟨#[39, 49]⟩ := by
  apply ByteArray.ext
  rw [ByteArray.data_append]
  rfl
set_option maxHeartbeats 1600000 in
set_option maxRecDepth 100000 in
theorem awake15 (w : World) (hG : GM w) : Calls Tryz.prog 18 #[] w fun e w' => e = .returned (.bool true) ∧ Below w.heap.size w w' := by
  have HM := Lib.hid hG
  have HI := Lib.hid fun w hM => input_num ⟨#[50]⟩ 20000 w hM (by decide) rfl in_two
  have HO1 := Lib.hid fun w => of_bool 1 true w ByteArray.empty rfl
  have HAr := Lib.hid fun w hM => arith_add (.num 20000) (.bool true) 20000 10000 30000 w hM trivial trivial rfl rfl (by omega) (by rfl)
  have HOb := Lib.hid fun w => of_text 1 0 ⟨#[98]⟩ w signs_b (by decide)
  have HOA := Lib.hid fun w => of_text 1 0 ⟨#[65]⟩ w signs_A (by decide)
  have HO1t := Lib.hid fun w => of_text 1 0 ⟨#[49]⟩ w signs_1 (by decide)
  have HT := Lib.hid fun w => tell_any (.num 30000) w
  have HC := Lib.hid fun w => cmp_bA ▸ cmp_any (.text ⟨#[98]⟩) (.text ⟨#[65]⟩) w (show 1 ≤ 4294967296 by decide) (show 1 ≤ 4294967296 by decide)
  have HTy := Lib.hid fun w hM => typed_num ⟨#[49]⟩ 10000 w (input_num ⟨#[49]⟩ 10000 w hM (by decide) rfl in_one) (by decide)
  have HS := Lib.hid fun w => show_div w
  simp only [app_one] at HTy
  simp only [V.val, V.tell] at HI HO1 HAr HOb HOA HO1t HT HC HTy HS
  clear hG
  go_enter Tryz.func18, Tryz.ntmps18
  go_wp2_with (first | (go_at_call 34; fail))
  go_at_call 34
  refine (HI.out _ HM.out).mono ?_
  rintro e w1 ⟨rfl, hb1⟩
  go_wp2_with (first | (go_at_call 60; fail))
  go_at_call 60
  refine (HO1.out _).mono ?_
  rintro e w2 ⟨rfl, hb⟩
  have hb2 := hb1.trans (hb.mono hb1.size)
  clear hb hb1
  have hM2 := HM.out.below hb2
  go_wp2_with (first | (go_at_call 25; fail))
  go_at_call 25
  refine (HAr.out _ hM2).mono ?_
  rintro e w3 ⟨rfl, hb⟩
  have hb3 := hb2.trans (hb.mono hb2.size)
  clear hb hb2 hM2
  go_wp2_with (first | (go_at_call 60; fail))
  go_at_call 60
  refine (HOb.out _).mono ?_
  rintro e w4 ⟨rfl, hb⟩
  have hb4 := hb3.trans (hb.mono hb3.size)
  clear hb hb3
  go_wp2_with (first | (go_at_call 60; fail))
  go_at_call 60
  refine (HOA.out _).mono ?_
  rintro e w5 ⟨rfl, hb⟩
  have hb5 := hb4.trans (hb.mono hb4.size)
  clear hb hb4
  go_wp2_with (first | (go_at_call 37; fail))
  go_at_call 37
  refine (HT.out _).mono ?_
  rintro e w6 ⟨rfl, hb⟩
  have hb6 := hb5.trans (hb.mono hb5.size)
  clear hb hb5
  go_wp2_with (first | (go_at_call 21; fail))
  go_at_call 21
  refine (HC.out _).mono ?_
  rintro e w7 ⟨rfl, hb⟩
  have hb7 := hb6.trans (hb.mono hb6.size)
  clear hb hb6
  go_wp2_with (first | (go_at_call 60; fail))
  go_at_call 60
  refine (HO1t.out _).mono ?_
  rintro e w8 ⟨rfl, hb⟩
  have hb8 := hb7.trans (hb.mono hb7.size)
  clear hb hb7
  have hM8 := HM.out.below hb8
  go_wp2_with (first | (go_at_call 35; fail))
  go_at_call 35
  refine (HTy.out _ hM8).mono ?_
  rintro e w9 ⟨rfl, hb⟩
  have hb9 := hb8.trans (hb.mono hb8.size)
  clear hb hb8 hM8
  go_wp2_with (first | (go_at_call 81; fail))
  go_at_call 81
  refine (HS.out _).mono ?_
  rintro e wa ⟨rfl, hb⟩
  have hba := hb9.trans (hb.mono hb9.size)
  clear hb hb9
  go_wp2
  go_ret
  exact ⟨rfl, hba⟩
end Go.Proofs.YtkobkeopajohiaaGreatDoor
