/-
  CONTRACT of value.Input, at any text.
-/
import Derived.Test.YtkobkeopajohiaaGreatDoorJ1
namespace Go.Proofs.YtkobkeopajohiaaGreatDoor
open Go.RowKit Go.Lib

set_option maxRecDepth 100000 in
theorem input_quote (s q : ByteArray) (w : World) (h : ∀ w, Calls Tryz.prog 110 #[.string s, .string ⟨#[39]⟩] w fun e w' => e = .returned (.tuple #[.string q, .bool true]) ∧ w' = w) :
    Calls Tryz.prog 34 #[.string s] w fun e w' => e = .returned (V.text q).val ∧ Below w.heap.size w w' := by
  have HC := Lib.hid h
  clear h
  go_enter Tryz.func34, Tryz.ntmps34
  go_wp2_with (first | (go_at_call 110; refine (HC.out _).mono ?_; rintro e w' ⟨rfl, rfl⟩))
  go_ret
  exact ⟨rfl, by go_grown⟩
set_option maxHeartbeats 1600000 in
set_option maxRecDepth 100000 in
theorem input_blank (s q t g : ByteArray) (p : Int) (w : World) (hG : GM w) (hC : ∀ w, Calls Tryz.prog 110 #[.string s, .string ⟨#[39]⟩] w fun e w' => e = .returned (.tuple #[.string q, .bool false]) ∧ w' = w)
    (hT : ∀ w, Calls Tryz.prog 101 #[.string s] w fun e w' => e = .returned (.string t) ∧ Below w.heap.size w w') (hP : ∀ w, GM w → Calls Tryz.prog 100 #[.string t] w fun e w' => e = .returned (.tuple #[.int .i64 p, .bool false]) ∧ Below w.heap.size w w')
    (hGr : ∀ w, Calls Tryz.prog 88 #[.string t] w fun e w' => e = .returned (.string g) ∧ Below w.heap.size w w') (h0 : g.toList.isEmpty = true) :
    Calls Tryz.prog 34 #[.string s] w fun e w' => e = .returned (V.blank).val ∧ Below w.heap.size w w' := by
  have HC := Lib.hid hC
  have HT := Lib.hid hT
  have HP := Lib.hid hP
  have HGr := Lib.hid hGr
  clear hC hT hP hGr
  go_enter Tryz.func34, Tryz.ntmps34
  go_wp2_with (first | (go_at_call 110; refine (HC.out _).mono ?_; rintro e w' ⟨rfl, rfl⟩) | (go_at_call 101; fail))
  go_at_call 101
  refine (HT.out _).mono ?_
  rintro e w1 ⟨rfl, hb1⟩
  have hM1 := hG.below hb1
  go_wp2_with (first | (go_at_call 100; fail))
  go_at_call 100
  refine (HP.out _ hM1).mono ?_
  rintro e w2 ⟨rfl, hb2⟩
  have hb12 := hb1.trans (hb2.mono hb1.size)
  clear hb1 hb2 hM1
  go_wp2_with (first | (go_at_call 88; fail))
  go_at_call 88
  refine (HGr.out _).mono ?_
  rintro e w3 ⟨rfl, hb3⟩
  have hb03 := hb12.trans (hb3.mono hb12.size)
  clear hb12 hb3
  go_wp2
  go_ret
  exact ⟨rfl, hb03⟩
set_option maxHeartbeats 1600000 in
set_option maxRecDepth 100000 in
theorem input_yes (s q t g : ByteArray) (p : Int) (w : World) (hG : GM w) (hC : ∀ w, Calls Tryz.prog 110 #[.string s, .string ⟨#[39]⟩] w fun e w' => e = .returned (.tuple #[.string q, .bool false]) ∧ w' = w)
    (hT : ∀ w, Calls Tryz.prog 101 #[.string s] w fun e w' => e = .returned (.string t) ∧ Below w.heap.size w w') (hP : ∀ w, GM w → Calls Tryz.prog 100 #[.string t] w fun e w' => e = .returned (.tuple #[.int .i64 p, .bool false]) ∧ Below w.heap.size w w')
    (hGr : ∀ w, Calls Tryz.prog 88 #[.string t] w fun e w' => e = .returned (.string g) ∧ Below w.heap.size w w') (h0 : g.toList.isEmpty = false) (h1 : (g.toList == [84, 82, 85, 69]) = true) :
    Calls Tryz.prog 34 #[.string s] w fun e w' => e = .returned (V.bool true).val ∧ Below w.heap.size w w' := by
  have HC := Lib.hid hC
  have HT := Lib.hid hT
  have HP := Lib.hid hP
  have HGr := Lib.hid hGr
  clear hC hT hP hGr
  go_enter Tryz.func34, Tryz.ntmps34
  go_wp2_with (first | (go_at_call 110; refine (HC.out _).mono ?_; rintro e w' ⟨rfl, rfl⟩) | (go_at_call 101; fail))
  go_at_call 101
  refine (HT.out _).mono ?_
  rintro e w1 ⟨rfl, hb1⟩
  have hM1 := hG.below hb1
  go_wp2_with (first | (go_at_call 100; fail))
  go_at_call 100
  refine (HP.out _ hM1).mono ?_
  rintro e w2 ⟨rfl, hb2⟩
  have hb12 := hb1.trans (hb2.mono hb1.size)
  clear hb1 hb2 hM1
  go_wp2_with (first | (go_at_call 88; fail))
  go_at_call 88
  refine (HGr.out _).mono ?_
  rintro e w3 ⟨rfl, hb3⟩
  have hb03 := hb12.trans (hb3.mono hb12.size)
  clear hb12 hb3
  go_wp2
  go_ret
  exact ⟨rfl, hb03⟩
set_option maxHeartbeats 1600000 in
set_option maxRecDepth 100000 in
theorem input_not (s q t g : ByteArray) (p : Int) (w : World) (hG : GM w) (hC : ∀ w, Calls Tryz.prog 110 #[.string s, .string ⟨#[39]⟩] w fun e w' => e = .returned (.tuple #[.string q, .bool false]) ∧ w' = w)
    (hT : ∀ w, Calls Tryz.prog 101 #[.string s] w fun e w' => e = .returned (.string t) ∧ Below w.heap.size w w') (hP : ∀ w, GM w → Calls Tryz.prog 100 #[.string t] w fun e w' => e = .returned (.tuple #[.int .i64 p, .bool false]) ∧ Below w.heap.size w w')
    (hGr : ∀ w, Calls Tryz.prog 88 #[.string t] w fun e w' => e = .returned (.string g) ∧ Below w.heap.size w w') (h0 : g.toList.isEmpty = false) (h1 : (g.toList == [84, 82, 85, 69]) = false) (h2 : (g.toList == [70, 65, 76, 83, 69]) = true) :
    Calls Tryz.prog 34 #[.string s] w fun e w' => e = .returned (V.bool false).val ∧ Below w.heap.size w w' := by
  have HC := Lib.hid hC
  have HT := Lib.hid hT
  have HP := Lib.hid hP
  have HGr := Lib.hid hGr
  clear hC hT hP hGr
  go_enter Tryz.func34, Tryz.ntmps34
  go_wp2_with (first | (go_at_call 110; refine (HC.out _).mono ?_; rintro e w' ⟨rfl, rfl⟩) | (go_at_call 101; fail))
  go_at_call 101
  refine (HT.out _).mono ?_
  rintro e w1 ⟨rfl, hb1⟩
  have hM1 := hG.below hb1
  go_wp2_with (first | (go_at_call 100; fail))
  go_at_call 100
  refine (HP.out _ hM1).mono ?_
  rintro e w2 ⟨rfl, hb2⟩
  have hb12 := hb1.trans (hb2.mono hb1.size)
  clear hb1 hb2 hM1
  go_wp2_with (first | (go_at_call 88; fail))
  go_at_call 88
  refine (HGr.out _).mono ?_
  rintro e w3 ⟨rfl, hb3⟩
  have hb03 := hb12.trans (hb3.mono hb12.size)
  clear hb12 hb3
  go_wp2
  go_ret
  exact ⟨rfl, hb03⟩
set_option maxHeartbeats 1600000 in
set_option maxRecDepth 100000 in
theorem input_err0 (s q t g : ByteArray) (p : Int) (w : World) (hG : GM w) (hC : ∀ w, Calls Tryz.prog 110 #[.string s, .string ⟨#[39]⟩] w fun e w' => e = .returned (.tuple #[.string q, .bool false]) ∧ w' = w)
    (hT : ∀ w, Calls Tryz.prog 101 #[.string s] w fun e w' => e = .returned (.string t) ∧ Below w.heap.size w w') (hP : ∀ w, GM w → Calls Tryz.prog 100 #[.string t] w fun e w' => e = .returned (.tuple #[.int .i64 p, .bool false]) ∧ Below w.heap.size w w')
    (hGr : ∀ w, Calls Tryz.prog 88 #[.string t] w fun e w' => e = .returned (.string g) ∧ Below w.heap.size w w') (h0 : g.toList.isEmpty = false) (h1 : (g.toList == [84, 82, 85, 69]) = false) (h2 : (g.toList == [70, 65, 76, 83, 69]) = false) (e0 : (g.toList == [35, 68, 73, 86, 47, 48, 33]) = true) :
    Calls Tryz.prog 34 #[.string s] w fun e w' => e = .returned (V.fail 1).val ∧ Below w.heap.size w w' := by
  have HC := Lib.hid hC
  have HT := Lib.hid hT
  have HP := Lib.hid hP
  have HGr := Lib.hid hGr
  clear hC hT hP hGr
  go_enter Tryz.func34, Tryz.ntmps34
  go_wp2_with (first | (go_at_call 110; refine (HC.out _).mono ?_; rintro e w' ⟨rfl, rfl⟩) | (go_at_call 101; fail))
  go_at_call 101
  refine (HT.out _).mono ?_
  rintro e w1 ⟨rfl, hb1⟩
  have hM1 := hG.below hb1
  go_wp2_with (first | (go_at_call 100; fail))
  go_at_call 100
  refine (HP.out _ hM1).mono ?_
  rintro e w2 ⟨rfl, hb2⟩
  have hb12 := hb1.trans (hb2.mono hb1.size)
  clear hb1 hb2 hM1
  go_wp2_with (first | (go_at_call 88; fail))
  go_at_call 88
  refine (HGr.out _).mono ?_
  rintro e w3 ⟨rfl, hb3⟩
  have hb03 := hb12.trans (hb3.mono hb12.size)
  clear hb12 hb3
  go_wp2_with (first | (go_at_call 111; fail))
  go_at_call 111
  refine (errors_cells _).mono ?_
  rintro e w4 ⟨b, rfl, hcs, hlt, hb4⟩
  have hb04 := hb03.trans (hb4.mono hb03.size)
  have c0 := hcs 0 _ rfl
  have c1 := hcs 1 _ rfl
  have c2 := hcs 2 _ rfl
  have c3 := hcs 3 _ rfl
  have c4 := hcs 4 _ rfl
  have c5 := hcs 5 _ rfl
  have c6 := hcs 6 _ rfl
  clear hcs hb03 hb4
  go_wp2
  refine wp_loop_rounds 8 ?_
  rw [rounds_succ]
  go_wp2
  go_ret
  exact ⟨rfl, hb04⟩
set_option maxHeartbeats 1600000 in
set_option maxRecDepth 100000 in
theorem input_err1 (s q t g : ByteArray) (p : Int) (w : World) (hG : GM w) (hC : ∀ w, Calls Tryz.prog 110 #[.string s, .string ⟨#[39]⟩] w fun e w' => e = .returned (.tuple #[.string q, .bool false]) ∧ w' = w)
    (hT : ∀ w, Calls Tryz.prog 101 #[.string s] w fun e w' => e = .returned (.string t) ∧ Below w.heap.size w w') (hP : ∀ w, GM w → Calls Tryz.prog 100 #[.string t] w fun e w' => e = .returned (.tuple #[.int .i64 p, .bool false]) ∧ Below w.heap.size w w')
    (hGr : ∀ w, Calls Tryz.prog 88 #[.string t] w fun e w' => e = .returned (.string g) ∧ Below w.heap.size w w') (h0 : g.toList.isEmpty = false) (h1 : (g.toList == [84, 82, 85, 69]) = false) (h2 : (g.toList == [70, 65, 76, 83, 69]) = false) (e0 : (g.toList == [35, 68, 73, 86, 47, 48, 33]) = false) (e1 : (g.toList == [35, 78, 85, 77, 33]) = true) :
    Calls Tryz.prog 34 #[.string s] w fun e w' => e = .returned (V.fail 2).val ∧ Below w.heap.size w w' := by
  have HC := Lib.hid hC
  have HT := Lib.hid hT
  have HP := Lib.hid hP
  have HGr := Lib.hid hGr
  clear hC hT hP hGr
  go_enter Tryz.func34, Tryz.ntmps34
  go_wp2_with (first | (go_at_call 110; refine (HC.out _).mono ?_; rintro e w' ⟨rfl, rfl⟩) | (go_at_call 101; fail))
  go_at_call 101
  refine (HT.out _).mono ?_
  rintro e w1 ⟨rfl, hb1⟩
  have hM1 := hG.below hb1
  go_wp2_with (first | (go_at_call 100; fail))
  go_at_call 100
  refine (HP.out _ hM1).mono ?_
  rintro e w2 ⟨rfl, hb2⟩
  have hb12 := hb1.trans (hb2.mono hb1.size)
  clear hb1 hb2 hM1
  go_wp2_with (first | (go_at_call 88; fail))
  go_at_call 88
  refine (HGr.out _).mono ?_
  rintro e w3 ⟨rfl, hb3⟩
  have hb03 := hb12.trans (hb3.mono hb12.size)
  clear hb12 hb3
  go_wp2_with (first | (go_at_call 111; fail))
  go_at_call 111
  refine (errors_cells _).mono ?_
  rintro e w4 ⟨b, rfl, hcs, hlt, hb4⟩
  have hb04 := hb03.trans (hb4.mono hb03.size)
  have c0 := hcs 0 _ rfl
  have c1 := hcs 1 _ rfl
  have c2 := hcs 2 _ rfl
  have c3 := hcs 3 _ rfl
  have c4 := hcs 4 _ rfl
  have c5 := hcs 5 _ rfl
  have c6 := hcs 6 _ rfl
  clear hcs hb03 hb4
  go_wp2
  refine wp_loop_rounds 8 ?_
  rw [rounds_succ]
  go_wp2
  rw [rounds_succ]
  go_wp2
  go_ret
  exact ⟨rfl, hb04⟩
set_option maxHeartbeats 1600000 in
set_option maxRecDepth 100000 in
theorem input_err2 (s q t g : ByteArray) (p : Int) (w : World) (hG : GM w) (hC : ∀ w, Calls Tryz.prog 110 #[.string s, .string ⟨#[39]⟩] w fun e w' => e = .returned (.tuple #[.string q, .bool false]) ∧ w' = w)
    (hT : ∀ w, Calls Tryz.prog 101 #[.string s] w fun e w' => e = .returned (.string t) ∧ Below w.heap.size w w') (hP : ∀ w, GM w → Calls Tryz.prog 100 #[.string t] w fun e w' => e = .returned (.tuple #[.int .i64 p, .bool false]) ∧ Below w.heap.size w w')
    (hGr : ∀ w, Calls Tryz.prog 88 #[.string t] w fun e w' => e = .returned (.string g) ∧ Below w.heap.size w w') (h0 : g.toList.isEmpty = false) (h1 : (g.toList == [84, 82, 85, 69]) = false) (h2 : (g.toList == [70, 65, 76, 83, 69]) = false) (e0 : (g.toList == [35, 68, 73, 86, 47, 48, 33]) = false) (e1 : (g.toList == [35, 78, 85, 77, 33]) = false) (e2 : (g.toList == [35, 86, 65, 76, 85, 69, 33]) = true) :
    Calls Tryz.prog 34 #[.string s] w fun e w' => e = .returned (V.fail 3).val ∧ Below w.heap.size w w' := by
  have HC := Lib.hid hC
  have HT := Lib.hid hT
  have HP := Lib.hid hP
  have HGr := Lib.hid hGr
  clear hC hT hP hGr
  go_enter Tryz.func34, Tryz.ntmps34
  go_wp2_with (first | (go_at_call 110; refine (HC.out _).mono ?_; rintro e w' ⟨rfl, rfl⟩) | (go_at_call 101; fail))
  go_at_call 101
  refine (HT.out _).mono ?_
  rintro e w1 ⟨rfl, hb1⟩
  have hM1 := hG.below hb1
  go_wp2_with (first | (go_at_call 100; fail))
  go_at_call 100
  refine (HP.out _ hM1).mono ?_
  rintro e w2 ⟨rfl, hb2⟩
  have hb12 := hb1.trans (hb2.mono hb1.size)
  clear hb1 hb2 hM1
  go_wp2_with (first | (go_at_call 88; fail))
  go_at_call 88
  refine (HGr.out _).mono ?_
  rintro e w3 ⟨rfl, hb3⟩
  have hb03 := hb12.trans (hb3.mono hb12.size)
  clear hb12 hb3
  go_wp2_with (first | (go_at_call 111; fail))
  go_at_call 111
  refine (errors_cells _).mono ?_
  rintro e w4 ⟨b, rfl, hcs, hlt, hb4⟩
  have hb04 := hb03.trans (hb4.mono hb03.size)
  have c0 := hcs 0 _ rfl
  have c1 := hcs 1 _ rfl
  have c2 := hcs 2 _ rfl
  have c3 := hcs 3 _ rfl
  have c4 := hcs 4 _ rfl
  have c5 := hcs 5 _ rfl
  have c6 := hcs 6 _ rfl
  clear hcs hb03 hb4
  go_wp2
  refine wp_loop_rounds 8 ?_
  rw [rounds_succ]
  go_wp2
  rw [rounds_succ]
  go_wp2
  rw [rounds_succ]
  go_wp2
  go_ret
  exact ⟨rfl, hb04⟩
set_option maxHeartbeats 1600000 in
set_option maxRecDepth 100000 in
theorem input_err3 (s q t g : ByteArray) (p : Int) (w : World) (hG : GM w) (hC : ∀ w, Calls Tryz.prog 110 #[.string s, .string ⟨#[39]⟩] w fun e w' => e = .returned (.tuple #[.string q, .bool false]) ∧ w' = w)
    (hT : ∀ w, Calls Tryz.prog 101 #[.string s] w fun e w' => e = .returned (.string t) ∧ Below w.heap.size w w') (hP : ∀ w, GM w → Calls Tryz.prog 100 #[.string t] w fun e w' => e = .returned (.tuple #[.int .i64 p, .bool false]) ∧ Below w.heap.size w w')
    (hGr : ∀ w, Calls Tryz.prog 88 #[.string t] w fun e w' => e = .returned (.string g) ∧ Below w.heap.size w w') (h0 : g.toList.isEmpty = false) (h1 : (g.toList == [84, 82, 85, 69]) = false) (h2 : (g.toList == [70, 65, 76, 83, 69]) = false) (e0 : (g.toList == [35, 68, 73, 86, 47, 48, 33]) = false) (e1 : (g.toList == [35, 78, 85, 77, 33]) = false) (e2 : (g.toList == [35, 86, 65, 76, 85, 69, 33]) = false) (e3 : (g.toList == [35, 82, 69, 70, 33]) = true) :
    Calls Tryz.prog 34 #[.string s] w fun e w' => e = .returned (V.fail 4).val ∧ Below w.heap.size w w' := by
  have HC := Lib.hid hC
  have HT := Lib.hid hT
  have HP := Lib.hid hP
  have HGr := Lib.hid hGr
  clear hC hT hP hGr
  go_enter Tryz.func34, Tryz.ntmps34
  go_wp2_with (first | (go_at_call 110; refine (HC.out _).mono ?_; rintro e w' ⟨rfl, rfl⟩) | (go_at_call 101; fail))
  go_at_call 101
  refine (HT.out _).mono ?_
  rintro e w1 ⟨rfl, hb1⟩
  have hM1 := hG.below hb1
  go_wp2_with (first | (go_at_call 100; fail))
  go_at_call 100
  refine (HP.out _ hM1).mono ?_
  rintro e w2 ⟨rfl, hb2⟩
  have hb12 := hb1.trans (hb2.mono hb1.size)
  clear hb1 hb2 hM1
  go_wp2_with (first | (go_at_call 88; fail))
  go_at_call 88
  refine (HGr.out _).mono ?_
  rintro e w3 ⟨rfl, hb3⟩
  have hb03 := hb12.trans (hb3.mono hb12.size)
  clear hb12 hb3
  go_wp2_with (first | (go_at_call 111; fail))
  go_at_call 111
  refine (errors_cells _).mono ?_
  rintro e w4 ⟨b, rfl, hcs, hlt, hb4⟩
  have hb04 := hb03.trans (hb4.mono hb03.size)
  have c0 := hcs 0 _ rfl
  have c1 := hcs 1 _ rfl
  have c2 := hcs 2 _ rfl
  have c3 := hcs 3 _ rfl
  have c4 := hcs 4 _ rfl
  have c5 := hcs 5 _ rfl
  have c6 := hcs 6 _ rfl
  clear hcs hb03 hb4
  go_wp2
  refine wp_loop_rounds 8 ?_
  rw [rounds_succ]
  go_wp2
  rw [rounds_succ]
  go_wp2
  rw [rounds_succ]
  go_wp2
  rw [rounds_succ]
  go_wp2
  go_ret
  exact ⟨rfl, hb04⟩
set_option maxHeartbeats 1600000 in
set_option maxRecDepth 100000 in
theorem input_err4 (s q t g : ByteArray) (p : Int) (w : World) (hG : GM w) (hC : ∀ w, Calls Tryz.prog 110 #[.string s, .string ⟨#[39]⟩] w fun e w' => e = .returned (.tuple #[.string q, .bool false]) ∧ w' = w)
    (hT : ∀ w, Calls Tryz.prog 101 #[.string s] w fun e w' => e = .returned (.string t) ∧ Below w.heap.size w w') (hP : ∀ w, GM w → Calls Tryz.prog 100 #[.string t] w fun e w' => e = .returned (.tuple #[.int .i64 p, .bool false]) ∧ Below w.heap.size w w')
    (hGr : ∀ w, Calls Tryz.prog 88 #[.string t] w fun e w' => e = .returned (.string g) ∧ Below w.heap.size w w') (h0 : g.toList.isEmpty = false) (h1 : (g.toList == [84, 82, 85, 69]) = false) (h2 : (g.toList == [70, 65, 76, 83, 69]) = false) (e0 : (g.toList == [35, 68, 73, 86, 47, 48, 33]) = false) (e1 : (g.toList == [35, 78, 85, 77, 33]) = false) (e2 : (g.toList == [35, 86, 65, 76, 85, 69, 33]) = false) (e3 : (g.toList == [35, 82, 69, 70, 33]) = false) (e4 : (g.toList == [35, 78, 47, 65]) = true) :
    Calls Tryz.prog 34 #[.string s] w fun e w' => e = .returned (V.fail 5).val ∧ Below w.heap.size w w' := by
  have HC := Lib.hid hC
  have HT := Lib.hid hT
  have HP := Lib.hid hP
  have HGr := Lib.hid hGr
  clear hC hT hP hGr
  go_enter Tryz.func34, Tryz.ntmps34
  go_wp2_with (first | (go_at_call 110; refine (HC.out _).mono ?_; rintro e w' ⟨rfl, rfl⟩) | (go_at_call 101; fail))
  go_at_call 101
  refine (HT.out _).mono ?_
  rintro e w1 ⟨rfl, hb1⟩
  have hM1 := hG.below hb1
  go_wp2_with (first | (go_at_call 100; fail))
  go_at_call 100
  refine (HP.out _ hM1).mono ?_
  rintro e w2 ⟨rfl, hb2⟩
  have hb12 := hb1.trans (hb2.mono hb1.size)
  clear hb1 hb2 hM1
  go_wp2_with (first | (go_at_call 88; fail))
  go_at_call 88
  refine (HGr.out _).mono ?_
  rintro e w3 ⟨rfl, hb3⟩
  have hb03 := hb12.trans (hb3.mono hb12.size)
  clear hb12 hb3
  go_wp2_with (first | (go_at_call 111; fail))
  go_at_call 111
  refine (errors_cells _).mono ?_
  rintro e w4 ⟨b, rfl, hcs, hlt, hb4⟩
  have hb04 := hb03.trans (hb4.mono hb03.size)
  have c0 := hcs 0 _ rfl
  have c1 := hcs 1 _ rfl
  have c2 := hcs 2 _ rfl
  have c3 := hcs 3 _ rfl
  have c4 := hcs 4 _ rfl
  have c5 := hcs 5 _ rfl
  have c6 := hcs 6 _ rfl
  clear hcs hb03 hb4
  go_wp2
  refine wp_loop_rounds 8 ?_
  rw [rounds_succ]
  go_wp2
  rw [rounds_succ]
  go_wp2
  rw [rounds_succ]
  go_wp2
  rw [rounds_succ]
  go_wp2
  rw [rounds_succ]
  go_wp2
  go_ret
  exact ⟨rfl, hb04⟩
set_option maxHeartbeats 1600000 in
set_option maxRecDepth 100000 in
theorem input_err5 (s q t g : ByteArray) (p : Int) (w : World) (hG : GM w) (hC : ∀ w, Calls Tryz.prog 110 #[.string s, .string ⟨#[39]⟩] w fun e w' => e = .returned (.tuple #[.string q, .bool false]) ∧ w' = w)
    (hT : ∀ w, Calls Tryz.prog 101 #[.string s] w fun e w' => e = .returned (.string t) ∧ Below w.heap.size w w') (hP : ∀ w, GM w → Calls Tryz.prog 100 #[.string t] w fun e w' => e = .returned (.tuple #[.int .i64 p, .bool false]) ∧ Below w.heap.size w w')
    (hGr : ∀ w, Calls Tryz.prog 88 #[.string t] w fun e w' => e = .returned (.string g) ∧ Below w.heap.size w w') (h0 : g.toList.isEmpty = false) (h1 : (g.toList == [84, 82, 85, 69]) = false) (h2 : (g.toList == [70, 65, 76, 83, 69]) = false) (e0 : (g.toList == [35, 68, 73, 86, 47, 48, 33]) = false) (e1 : (g.toList == [35, 78, 85, 77, 33]) = false) (e2 : (g.toList == [35, 86, 65, 76, 85, 69, 33]) = false) (e3 : (g.toList == [35, 82, 69, 70, 33]) = false) (e4 : (g.toList == [35, 78, 47, 65]) = false) (e5 : (g.toList == [35, 78, 65, 77, 69, 63]) = true) :
    Calls Tryz.prog 34 #[.string s] w fun e w' => e = .returned (V.fail 6).val ∧ Below w.heap.size w w' := by
  have HC := Lib.hid hC
  have HT := Lib.hid hT
  have HP := Lib.hid hP
  have HGr := Lib.hid hGr
  clear hC hT hP hGr
  go_enter Tryz.func34, Tryz.ntmps34
  go_wp2_with (first | (go_at_call 110; refine (HC.out _).mono ?_; rintro e w' ⟨rfl, rfl⟩) | (go_at_call 101; fail))
  go_at_call 101
  refine (HT.out _).mono ?_
  rintro e w1 ⟨rfl, hb1⟩
  have hM1 := hG.below hb1
  go_wp2_with (first | (go_at_call 100; fail))
  go_at_call 100
  refine (HP.out _ hM1).mono ?_
  rintro e w2 ⟨rfl, hb2⟩
  have hb12 := hb1.trans (hb2.mono hb1.size)
  clear hb1 hb2 hM1
  go_wp2_with (first | (go_at_call 88; fail))
  go_at_call 88
  refine (HGr.out _).mono ?_
  rintro e w3 ⟨rfl, hb3⟩
  have hb03 := hb12.trans (hb3.mono hb12.size)
  clear hb12 hb3
  go_wp2_with (first | (go_at_call 111; fail))
  go_at_call 111
  refine (errors_cells _).mono ?_
  rintro e w4 ⟨b, rfl, hcs, hlt, hb4⟩
  have hb04 := hb03.trans (hb4.mono hb03.size)
  have c0 := hcs 0 _ rfl
  have c1 := hcs 1 _ rfl
  have c2 := hcs 2 _ rfl
  have c3 := hcs 3 _ rfl
  have c4 := hcs 4 _ rfl
  have c5 := hcs 5 _ rfl
  have c6 := hcs 6 _ rfl
  clear hcs hb03 hb4
  go_wp2
  refine wp_loop_rounds 8 ?_
  rw [rounds_succ]
  go_wp2
  rw [rounds_succ]
  go_wp2
  rw [rounds_succ]
  go_wp2
  rw [rounds_succ]
  go_wp2
  rw [rounds_succ]
  go_wp2
  rw [rounds_succ]
  go_wp2
  go_ret
  exact ⟨rfl, hb04⟩
set_option maxHeartbeats 1600000 in
set_option maxRecDepth 100000 in
theorem input_err6 (s q t g : ByteArray) (p : Int) (w : World) (hG : GM w) (hC : ∀ w, Calls Tryz.prog 110 #[.string s, .string ⟨#[39]⟩] w fun e w' => e = .returned (.tuple #[.string q, .bool false]) ∧ w' = w)
    (hT : ∀ w, Calls Tryz.prog 101 #[.string s] w fun e w' => e = .returned (.string t) ∧ Below w.heap.size w w') (hP : ∀ w, GM w → Calls Tryz.prog 100 #[.string t] w fun e w' => e = .returned (.tuple #[.int .i64 p, .bool false]) ∧ Below w.heap.size w w')
    (hGr : ∀ w, Calls Tryz.prog 88 #[.string t] w fun e w' => e = .returned (.string g) ∧ Below w.heap.size w w') (h0 : g.toList.isEmpty = false) (h1 : (g.toList == [84, 82, 85, 69]) = false) (h2 : (g.toList == [70, 65, 76, 83, 69]) = false) (e0 : (g.toList == [35, 68, 73, 86, 47, 48, 33]) = false) (e1 : (g.toList == [35, 78, 85, 77, 33]) = false) (e2 : (g.toList == [35, 86, 65, 76, 85, 69, 33]) = false) (e3 : (g.toList == [35, 82, 69, 70, 33]) = false) (e4 : (g.toList == [35, 78, 47, 65]) = false) (e5 : (g.toList == [35, 78, 65, 77, 69, 63]) = false) (e6 : (g.toList == [35, 67, 89, 67, 76, 69, 33]) = true) :
    Calls Tryz.prog 34 #[.string s] w fun e w' => e = .returned (V.fail 7).val ∧ Below w.heap.size w w' := by
  have HC := Lib.hid hC
  have HT := Lib.hid hT
  have HP := Lib.hid hP
  have HGr := Lib.hid hGr
  clear hC hT hP hGr
  go_enter Tryz.func34, Tryz.ntmps34
  go_wp2_with (first | (go_at_call 110; refine (HC.out _).mono ?_; rintro e w' ⟨rfl, rfl⟩) | (go_at_call 101; fail))
  go_at_call 101
  refine (HT.out _).mono ?_
  rintro e w1 ⟨rfl, hb1⟩
  have hM1 := hG.below hb1
  go_wp2_with (first | (go_at_call 100; fail))
  go_at_call 100
  refine (HP.out _ hM1).mono ?_
  rintro e w2 ⟨rfl, hb2⟩
  have hb12 := hb1.trans (hb2.mono hb1.size)
  clear hb1 hb2 hM1
  go_wp2_with (first | (go_at_call 88; fail))
  go_at_call 88
  refine (HGr.out _).mono ?_
  rintro e w3 ⟨rfl, hb3⟩
  have hb03 := hb12.trans (hb3.mono hb12.size)
  clear hb12 hb3
  go_wp2_with (first | (go_at_call 111; fail))
  go_at_call 111
  refine (errors_cells _).mono ?_
  rintro e w4 ⟨b, rfl, hcs, hlt, hb4⟩
  have hb04 := hb03.trans (hb4.mono hb03.size)
  have c0 := hcs 0 _ rfl
  have c1 := hcs 1 _ rfl
  have c2 := hcs 2 _ rfl
  have c3 := hcs 3 _ rfl
  have c4 := hcs 4 _ rfl
  have c5 := hcs 5 _ rfl
  have c6 := hcs 6 _ rfl
  clear hcs hb03 hb4
  go_wp2
  refine wp_loop_rounds 8 ?_
  rw [rounds_succ]
  go_wp2
  rw [rounds_succ]
  go_wp2
  rw [rounds_succ]
  go_wp2
  rw [rounds_succ]
  go_wp2
  rw [rounds_succ]
  go_wp2
  rw [rounds_succ]
  go_wp2
  rw [rounds_succ]
  go_wp2
  go_ret
  exact ⟨rfl, hb04⟩
set_option maxHeartbeats 1600000 in
set_option maxRecDepth 100000 in
theorem input_err7 (s q t g : ByteArray) (p : Int) (w : World) (hG : GM w) (hC : ∀ w, Calls Tryz.prog 110 #[.string s, .string ⟨#[39]⟩] w fun e w' => e = .returned (.tuple #[.string q, .bool false]) ∧ w' = w)
    (hT : ∀ w, Calls Tryz.prog 101 #[.string s] w fun e w' => e = .returned (.string t) ∧ Below w.heap.size w w') (hP : ∀ w, GM w → Calls Tryz.prog 100 #[.string t] w fun e w' => e = .returned (.tuple #[.int .i64 p, .bool false]) ∧ Below w.heap.size w w')
    (hGr : ∀ w, Calls Tryz.prog 88 #[.string t] w fun e w' => e = .returned (.string g) ∧ Below w.heap.size w w') (h0 : g.toList.isEmpty = false) (h1 : (g.toList == [84, 82, 85, 69]) = false) (h2 : (g.toList == [70, 65, 76, 83, 69]) = false) (e0 : (g.toList == [35, 68, 73, 86, 47, 48, 33]) = false) (e1 : (g.toList == [35, 78, 85, 77, 33]) = false) (e2 : (g.toList == [35, 86, 65, 76, 85, 69, 33]) = false) (e3 : (g.toList == [35, 82, 69, 70, 33]) = false) (e4 : (g.toList == [35, 78, 47, 65]) = false) (e5 : (g.toList == [35, 78, 65, 77, 69, 63]) = false) (e6 : (g.toList == [35, 67, 89, 67, 76, 69, 33]) = false) :
    Calls Tryz.prog 34 #[.string s] w fun e w' => e = .returned (V.text s).val ∧ Below w.heap.size w w' := by
  have HC := Lib.hid hC
  have HT := Lib.hid hT
  have HP := Lib.hid hP
  have HGr := Lib.hid hGr
  clear hC hT hP hGr
  go_enter Tryz.func34, Tryz.ntmps34
  go_wp2_with (first | (go_at_call 110; refine (HC.out _).mono ?_; rintro e w' ⟨rfl, rfl⟩) | (go_at_call 101; fail))
  go_at_call 101
  refine (HT.out _).mono ?_
  rintro e w1 ⟨rfl, hb1⟩
  have hM1 := hG.below hb1
  go_wp2_with (first | (go_at_call 100; fail))
  go_at_call 100
  refine (HP.out _ hM1).mono ?_
  rintro e w2 ⟨rfl, hb2⟩
  have hb12 := hb1.trans (hb2.mono hb1.size)
  clear hb1 hb2 hM1
  go_wp2_with (first | (go_at_call 88; fail))
  go_at_call 88
  refine (HGr.out _).mono ?_
  rintro e w3 ⟨rfl, hb3⟩
  have hb03 := hb12.trans (hb3.mono hb12.size)
  clear hb12 hb3
  go_wp2_with (first | (go_at_call 111; fail))
  go_at_call 111
  refine (errors_cells _).mono ?_
  rintro e w4 ⟨b, rfl, hcs, hlt, hb4⟩
  have hb04 := hb03.trans (hb4.mono hb03.size)
  have c0 := hcs 0 _ rfl
  have c1 := hcs 1 _ rfl
  have c2 := hcs 2 _ rfl
  have c3 := hcs 3 _ rfl
  have c4 := hcs 4 _ rfl
  have c5 := hcs 5 _ rfl
  have c6 := hcs 6 _ rfl
  clear hcs hb03 hb4
  go_wp2
  refine wp_loop_rounds 8 ?_
  rw [rounds_succ]
  go_wp2
  rw [rounds_succ]
  go_wp2
  rw [rounds_succ]
  go_wp2
  rw [rounds_succ]
  go_wp2
  rw [rounds_succ]
  go_wp2
  rw [rounds_succ]
  go_wp2
  rw [rounds_succ]
  go_wp2
  rw [rounds_succ]
  go_wp2
  go_ret
  exact ⟨rfl, hb04⟩
theorem input_any (s : ByteArray) (w : World) (hG : GM w) (hs : s.size ≤ 4294967) :
    Calls Tryz.prog 34 #[.string s] w fun e w' => e = .returned (inputV s).val ∧ Below w.heap.size w w' := by
  have hC := fun w => Tryz.strings_CutPrefix s ⟨#[39]⟩ w
  by_cases hq : Lib.hasPrefix s.data.toList [39] = true
  · unfold inputV
    rw [if_pos hq]
    refine input_quote s _ w fun w => (hC w).mono fun e w' ⟨h1, h2⟩ => ⟨?_, h2⟩
    rw [h1]
    show Ending.returned (.tuple #[.string ⟨(Lib.trimPrefix s.data.toList [39]).toArray⟩, .bool (Lib.hasPrefix s.data.toList [39])]) = _
    unfold Lib.trimPrefix
    rw [if_pos hq, hq]
    rfl
  have hq' : Lib.hasPrefix s.data.toList [39] = false := by simpa using hq
  by_cases hp : (Tab.parse (Lib.trimB s.data.toList 32)).2 = true
  · have e : inputV s = .num (Tab.parse (Lib.trimB s.data.toList 32)).1 := by unfold inputV; rw [if_neg hq, if_pos hp]
    rw [e]
    exact input_num s _ w hG hs hq' (Prod.ext rfl hp)
  have hz : (⟨(Lib.trimB s.data.toList 32).toArray⟩ : ByteArray).size ≤ s.size := by
    have := trimB_le s.data.toList 32
    rw [size_eq, size_eq s]
    exact this
  have hC' : ∀ w, Calls Tryz.prog 110 #[.string s, .string ⟨#[39]⟩] w fun e w' => e = .returned (.tuple #[.string ⟨(Lib.trimPrefix s.data.toList [39]).toArray⟩, .bool false]) ∧ w' = w := fun w => (hC w).mono fun e w' ⟨h1, h2⟩ => ⟨by rw [h1]; show Ending.returned (.tuple #[.string ⟨(Lib.trimPrefix s.data.toList [39]).toArray⟩, .bool (Lib.hasPrefix s.data.toList [39])]) = _; rw [hq'], h2⟩
  have hT := fun w => trim_any s w (by omega)
  have hP := fun w hM => parse_is ⟨(Lib.trimB s.data.toList 32).toArray⟩ (Tab.parse (Lib.trimB s.data.toList 32)).1 false w hM (by omega) (Prod.ext rfl (by simpa using hp))
  have hGr := fun w => great_any ⟨(Lib.trimB s.data.toList 32).toArray⟩ w (by omega)
  have eg : (great ⟨(Lib.trimB s.data.toList 32).toArray⟩).toList = (Lib.trimB s.data.toList 32).map upperB := by rw [toList_data]; rfl
  have e : inputV s = (if (Lib.trimB s.data.toList 32).map upperB = [] then .blank else if (Lib.trimB s.data.toList 32).map upperB = TRUE' then .bool true else if (Lib.trimB s.data.toList 32).map upperB = FALSE' then .bool false else errV ((Lib.trimB s.data.toList 32).map upperB) s) := by
    unfold inputV; rw [if_neg hq, if_neg hp]
  rw [e]
  rw [← eg]
  generalize great ⟨(Lib.trimB s.data.toList 32).toArray⟩ = g at *
  generalize (⟨(Lib.trimB s.data.toList 32).toArray⟩ : ByteArray) = t at *
  generalize (Tab.parse (Lib.trimB s.data.toList 32)).1 = p at *
  clear e eg hz hp hC
  by_cases h0 : g.toList = []
  · rw [if_pos h0]
    exact input_blank s _ t g p w hG hC' hT hP hGr (by rw [h0]; rfl)
  rw [if_neg h0]
  have h0' : g.toList.isEmpty = false := by simpa using h0
  by_cases h1 : g.toList = TRUE'
  · rw [if_pos h1]
    exact input_yes s _ t g p w hG hC' hT hP hGr h0' (by rw [h1]; rfl)
  rw [if_neg h1]
  have h1' : (g.toList == [84, 82, 85, 69]) = false := by rw [beq_eq_false_iff_ne]; exact h1
  by_cases h2 : g.toList = FALSE'
  · rw [if_pos h2]
    exact input_not s _ t g p w hG hC' hT hP hGr h0' h1' (by rw [h2]; rfl)
  rw [if_neg h2]
  have h2' : (g.toList == [70, 65, 76, 83, 69]) = false := by rw [beq_eq_false_iff_ne]; exact h2
  unfold errV
  by_cases e0 : (g.toList == [35, 68, 73, 86, 47, 48, 33]) = true
  · rw [if_pos e0]
    exact input_err0 s _ t g p w hG hC' hT hP hGr h0' h1' h2' e0
  rw [if_neg e0]
  replace e0 := Bool.eq_false_iff.2 e0
  by_cases e1 : (g.toList == [35, 78, 85, 77, 33]) = true
  · rw [if_pos e1]
    exact input_err1 s _ t g p w hG hC' hT hP hGr h0' h1' h2' e0 e1
  rw [if_neg e1]
  replace e1 := Bool.eq_false_iff.2 e1
  by_cases e2 : (g.toList == [35, 86, 65, 76, 85, 69, 33]) = true
  · rw [if_pos e2]
    exact input_err2 s _ t g p w hG hC' hT hP hGr h0' h1' h2' e0 e1 e2
  rw [if_neg e2]
  replace e2 := Bool.eq_false_iff.2 e2
  by_cases e3 : (g.toList == [35, 82, 69, 70, 33]) = true
  · rw [if_pos e3]
    exact input_err3 s _ t g p w hG hC' hT hP hGr h0' h1' h2' e0 e1 e2 e3
  rw [if_neg e3]
  replace e3 := Bool.eq_false_iff.2 e3
  by_cases e4 : (g.toList == [35, 78, 47, 65]) = true
  · rw [if_pos e4]
    exact input_err4 s _ t g p w hG hC' hT hP hGr h0' h1' h2' e0 e1 e2 e3 e4
  rw [if_neg e4]
  replace e4 := Bool.eq_false_iff.2 e4
  by_cases e5 : (g.toList == [35, 78, 65, 77, 69, 63]) = true
  · rw [if_pos e5]
    exact input_err5 s _ t g p w hG hC' hT hP hGr h0' h1' h2' e0 e1 e2 e3 e4 e5
  rw [if_neg e5]
  replace e5 := Bool.eq_false_iff.2 e5
  by_cases e6 : (g.toList == [35, 67, 89, 67, 76, 69, 33]) = true
  · rw [if_pos e6]
    exact input_err6 s _ t g p w hG hC' hT hP hGr h0' h1' h2' e0 e1 e2 e3 e4 e5 e6
  rw [if_neg e6]
  replace e6 := Bool.eq_false_iff.2 e6
  exact input_err7 s _ t g p w hG hC' hT hP hGr h0' h1' h2' e0 e1 e2 e3 e4 e5 e6
end Go.Proofs.YtkobkeopajohiaaGreatDoor
