/-
  CONTRACT of maths.limits at any name (printed by gen/limits.py).
-/
import Derived.Test.YtkobkeopajohiaaGreatDoorVA
namespace Go.Proofs.YtkobkeopajohiaaGreatDoor
open Go.RowKit Go.Lib

/-- how many arguments a function takes, at least and at most -/
def lim (s : ByteArray) : Int × Int :=
  if (s.toList == [65, 66, 83]) = true then (1, 1) else
  if (s.toList == [83, 73, 71, 78]) = true then (1, 1) else
  if (s.toList == [73, 78, 84]) = true then (1, 1) else
  if (s.toList == [83, 81, 82, 84]) = true then (1, 1) else
  if (s.toList == [70, 65, 67, 84]) = true then (1, 1) else
  if (s.toList == [69, 86, 69, 78]) = true then (1, 1) else
  if (s.toList == [79, 68, 68]) = true then (1, 1) else
  if (s.toList == [84, 82, 85, 78, 67]) = true then (1, 2) else
  if (s.toList == [70, 76, 79, 79, 82]) = true then (1, 2) else
  if (s.toList == [67, 69, 73, 76, 73, 78, 71]) = true then (1, 2) else
  if (s.toList == [82, 79, 85, 78, 68]) = true then (1, 2) else
  if (s.toList == [82, 79, 85, 78, 68, 85, 80]) = true then (1, 2) else
  if (s.toList == [82, 79, 85, 78, 68, 68, 79, 87, 78]) = true then (1, 2) else
  if (s.toList == [77, 82, 79, 85, 78, 68]) = true then (2, 2) else
  if (s.toList == [77, 79, 68]) = true then (2, 2) else
  if (s.toList == [81, 85, 79, 84, 73, 69, 78, 84]) = true then (2, 2) else
  if (s.toList == [80, 79, 87, 69, 82]) = true then (2, 2) else
  if (s.toList == [67, 76, 65, 77, 80]) = true then (3, 3) else
  if (s.toList == [71, 67, 68]) = true then (1, 30) else
  if (s.toList == [76, 67, 77]) = true then (1, 30) else
  (0, 0)
set_option maxRecDepth 100000 in
theorem limits_at0 (s : ByteArray) (w : World)  (h : (s.toList == [65, 66, 83]) = true) :
    Calls Tryz.prog 38 #[.string s] w fun e w' => e = .returned (.tuple #[.int .i64 1, .int .i64 1]) ∧ w = w' := by
  go_enter Tryz.func38, Tryz.ntmps38
  go_wp2
  go_ret2
  exact ⟨rfl, rfl⟩
set_option maxRecDepth 100000 in
theorem limits_at1 (s : ByteArray) (w : World) (h0 : (s.toList == [65, 66, 83]) = false) (h : (s.toList == [83, 73, 71, 78]) = true) :
    Calls Tryz.prog 38 #[.string s] w fun e w' => e = .returned (.tuple #[.int .i64 1, .int .i64 1]) ∧ w = w' := by
  go_enter Tryz.func38, Tryz.ntmps38
  go_wp2
  go_ret2
  exact ⟨rfl, rfl⟩
set_option maxRecDepth 100000 in
theorem limits_at2 (s : ByteArray) (w : World) (h0 : (s.toList == [65, 66, 83]) = false) (h1 : (s.toList == [83, 73, 71, 78]) = false) (h : (s.toList == [73, 78, 84]) = true) :
    Calls Tryz.prog 38 #[.string s] w fun e w' => e = .returned (.tuple #[.int .i64 1, .int .i64 1]) ∧ w = w' := by
  go_enter Tryz.func38, Tryz.ntmps38
  go_wp2
  go_ret2
  exact ⟨rfl, rfl⟩
set_option maxRecDepth 100000 in
theorem limits_at3 (s : ByteArray) (w : World) (h0 : (s.toList == [65, 66, 83]) = false) (h1 : (s.toList == [83, 73, 71, 78]) = false) (h2 : (s.toList == [73, 78, 84]) = false) (h : (s.toList == [83, 81, 82, 84]) = true) :
    Calls Tryz.prog 38 #[.string s] w fun e w' => e = .returned (.tuple #[.int .i64 1, .int .i64 1]) ∧ w = w' := by
  go_enter Tryz.func38, Tryz.ntmps38
  go_wp2
  go_ret2
  exact ⟨rfl, rfl⟩
set_option maxRecDepth 100000 in
theorem limits_at4 (s : ByteArray) (w : World) (h0 : (s.toList == [65, 66, 83]) = false) (h1 : (s.toList == [83, 73, 71, 78]) = false) (h2 : (s.toList == [73, 78, 84]) = false) (h3 : (s.toList == [83, 81, 82, 84]) = false) (h : (s.toList == [70, 65, 67, 84]) = true) :
    Calls Tryz.prog 38 #[.string s] w fun e w' => e = .returned (.tuple #[.int .i64 1, .int .i64 1]) ∧ w = w' := by
  go_enter Tryz.func38, Tryz.ntmps38
  go_wp2
  go_ret2
  exact ⟨rfl, rfl⟩
set_option maxRecDepth 100000 in
theorem limits_at5 (s : ByteArray) (w : World) (h0 : (s.toList == [65, 66, 83]) = false) (h1 : (s.toList == [83, 73, 71, 78]) = false) (h2 : (s.toList == [73, 78, 84]) = false) (h3 : (s.toList == [83, 81, 82, 84]) = false) (h4 : (s.toList == [70, 65, 67, 84]) = false) (h : (s.toList == [69, 86, 69, 78]) = true) :
    Calls Tryz.prog 38 #[.string s] w fun e w' => e = .returned (.tuple #[.int .i64 1, .int .i64 1]) ∧ w = w' := by
  go_enter Tryz.func38, Tryz.ntmps38
  go_wp2
  go_ret2
  exact ⟨rfl, rfl⟩
set_option maxRecDepth 100000 in
theorem limits_at6 (s : ByteArray) (w : World) (h0 : (s.toList == [65, 66, 83]) = false) (h1 : (s.toList == [83, 73, 71, 78]) = false) (h2 : (s.toList == [73, 78, 84]) = false) (h3 : (s.toList == [83, 81, 82, 84]) = false) (h4 : (s.toList == [70, 65, 67, 84]) = false) (h5 : (s.toList == [69, 86, 69, 78]) = false) (h : (s.toList == [79, 68, 68]) = true) :
    Calls Tryz.prog 38 #[.string s] w fun e w' => e = .returned (.tuple #[.int .i64 1, .int .i64 1]) ∧ w = w' := by
  go_enter Tryz.func38, Tryz.ntmps38
  go_wp2
  go_ret2
  exact ⟨rfl, rfl⟩
set_option maxRecDepth 100000 in
theorem limits_at7 (s : ByteArray) (w : World) (h0 : (s.toList == [65, 66, 83]) = false) (h1 : (s.toList == [83, 73, 71, 78]) = false) (h2 : (s.toList == [73, 78, 84]) = false) (h3 : (s.toList == [83, 81, 82, 84]) = false) (h4 : (s.toList == [70, 65, 67, 84]) = false) (h5 : (s.toList == [69, 86, 69, 78]) = false) (h6 : (s.toList == [79, 68, 68]) = false) (h : (s.toList == [84, 82, 85, 78, 67]) = true) :
    Calls Tryz.prog 38 #[.string s] w fun e w' => e = .returned (.tuple #[.int .i64 1, .int .i64 2]) ∧ w = w' := by
  go_enter Tryz.func38, Tryz.ntmps38
  go_wp2
  go_ret2
  exact ⟨rfl, rfl⟩
set_option maxRecDepth 100000 in
theorem limits_at8 (s : ByteArray) (w : World) (h0 : (s.toList == [65, 66, 83]) = false) (h1 : (s.toList == [83, 73, 71, 78]) = false) (h2 : (s.toList == [73, 78, 84]) = false) (h3 : (s.toList == [83, 81, 82, 84]) = false) (h4 : (s.toList == [70, 65, 67, 84]) = false) (h5 : (s.toList == [69, 86, 69, 78]) = false) (h6 : (s.toList == [79, 68, 68]) = false) (h7 : (s.toList == [84, 82, 85, 78, 67]) = false) (h : (s.toList == [70, 76, 79, 79, 82]) = true) :
    Calls Tryz.prog 38 #[.string s] w fun e w' => e = .returned (.tuple #[.int .i64 1, .int .i64 2]) ∧ w = w' := by
  go_enter Tryz.func38, Tryz.ntmps38
  go_wp2
  go_ret2
  exact ⟨rfl, rfl⟩
set_option maxRecDepth 100000 in
theorem limits_at9 (s : ByteArray) (w : World) (h0 : (s.toList == [65, 66, 83]) = false) (h1 : (s.toList == [83, 73, 71, 78]) = false) (h2 : (s.toList == [73, 78, 84]) = false) (h3 : (s.toList == [83, 81, 82, 84]) = false) (h4 : (s.toList == [70, 65, 67, 84]) = false) (h5 : (s.toList == [69, 86, 69, 78]) = false) (h6 : (s.toList == [79, 68, 68]) = false) (h7 : (s.toList == [84, 82, 85, 78, 67]) = false) (h8 : (s.toList == [70, 76, 79, 79, 82]) = false) (h : (s.toList == [67, 69, 73, 76, 73, 78, 71]) = true) :
    Calls Tryz.prog 38 #[.string s] w fun e w' => e = .returned (.tuple #[.int .i64 1, .int .i64 2]) ∧ w = w' := by
  go_enter Tryz.func38, Tryz.ntmps38
  go_wp2
  go_ret2
  exact ⟨rfl, rfl⟩
set_option maxRecDepth 100000 in
theorem limits_at10 (s : ByteArray) (w : World) (h0 : (s.toList == [65, 66, 83]) = false) (h1 : (s.toList == [83, 73, 71, 78]) = false) (h2 : (s.toList == [73, 78, 84]) = false) (h3 : (s.toList == [83, 81, 82, 84]) = false) (h4 : (s.toList == [70, 65, 67, 84]) = false) (h5 : (s.toList == [69, 86, 69, 78]) = false) (h6 : (s.toList == [79, 68, 68]) = false) (h7 : (s.toList == [84, 82, 85, 78, 67]) = false) (h8 : (s.toList == [70, 76, 79, 79, 82]) = false) (h9 : (s.toList == [67, 69, 73, 76, 73, 78, 71]) = false) (h : (s.toList == [82, 79, 85, 78, 68]) = true) :
    Calls Tryz.prog 38 #[.string s] w fun e w' => e = .returned (.tuple #[.int .i64 1, .int .i64 2]) ∧ w = w' := by
  go_enter Tryz.func38, Tryz.ntmps38
  go_wp2
  go_ret2
  exact ⟨rfl, rfl⟩
set_option maxRecDepth 100000 in
theorem limits_at11 (s : ByteArray) (w : World) (h0 : (s.toList == [65, 66, 83]) = false) (h1 : (s.toList == [83, 73, 71, 78]) = false) (h2 : (s.toList == [73, 78, 84]) = false) (h3 : (s.toList == [83, 81, 82, 84]) = false) (h4 : (s.toList == [70, 65, 67, 84]) = false) (h5 : (s.toList == [69, 86, 69, 78]) = false) (h6 : (s.toList == [79, 68, 68]) = false) (h7 : (s.toList == [84, 82, 85, 78, 67]) = false) (h8 : (s.toList == [70, 76, 79, 79, 82]) = false) (h9 : (s.toList == [67, 69, 73, 76, 73, 78, 71]) = false) (h10 : (s.toList == [82, 79, 85, 78, 68]) = false) (h : (s.toList == [82, 79, 85, 78, 68, 85, 80]) = true) :
    Calls Tryz.prog 38 #[.string s] w fun e w' => e = .returned (.tuple #[.int .i64 1, .int .i64 2]) ∧ w = w' := by
  go_enter Tryz.func38, Tryz.ntmps38
  go_wp2
  go_ret2
  exact ⟨rfl, rfl⟩
set_option maxRecDepth 100000 in
theorem limits_at12 (s : ByteArray) (w : World) (h0 : (s.toList == [65, 66, 83]) = false) (h1 : (s.toList == [83, 73, 71, 78]) = false) (h2 : (s.toList == [73, 78, 84]) = false) (h3 : (s.toList == [83, 81, 82, 84]) = false) (h4 : (s.toList == [70, 65, 67, 84]) = false) (h5 : (s.toList == [69, 86, 69, 78]) = false) (h6 : (s.toList == [79, 68, 68]) = false) (h7 : (s.toList == [84, 82, 85, 78, 67]) = false) (h8 : (s.toList == [70, 76, 79, 79, 82]) = false) (h9 : (s.toList == [67, 69, 73, 76, 73, 78, 71]) = false) (h10 : (s.toList == [82, 79, 85, 78, 68]) = false) (h11 : (s.toList == [82, 79, 85, 78, 68, 85, 80]) = false) (h : (s.toList == [82, 79, 85, 78, 68, 68, 79, 87, 78]) = true) :
    Calls Tryz.prog 38 #[.string s] w fun e w' => e = .returned (.tuple #[.int .i64 1, .int .i64 2]) ∧ w = w' := by
  go_enter Tryz.func38, Tryz.ntmps38
  go_wp2
  go_ret2
  exact ⟨rfl, rfl⟩
set_option maxRecDepth 100000 in
theorem limits_at13 (s : ByteArray) (w : World) (h0 : (s.toList == [65, 66, 83]) = false) (h1 : (s.toList == [83, 73, 71, 78]) = false) (h2 : (s.toList == [73, 78, 84]) = false) (h3 : (s.toList == [83, 81, 82, 84]) = false) (h4 : (s.toList == [70, 65, 67, 84]) = false) (h5 : (s.toList == [69, 86, 69, 78]) = false) (h6 : (s.toList == [79, 68, 68]) = false) (h7 : (s.toList == [84, 82, 85, 78, 67]) = false) (h8 : (s.toList == [70, 76, 79, 79, 82]) = false) (h9 : (s.toList == [67, 69, 73, 76, 73, 78, 71]) = false) (h10 : (s.toList == [82, 79, 85, 78, 68]) = false) (h11 : (s.toList == [82, 79, 85, 78, 68, 85, 80]) = false) (h12 : (s.toList == [82, 79, 85, 78, 68, 68, 79, 87, 78]) = false) (h : (s.toList == [77, 82, 79, 85, 78, 68]) = true) :
    Calls Tryz.prog 38 #[.string s] w fun e w' => e = .returned (.tuple #[.int .i64 2, .int .i64 2]) ∧ w = w' := by
  go_enter Tryz.func38, Tryz.ntmps38
  go_wp2
  go_ret2
  exact ⟨rfl, rfl⟩
set_option maxRecDepth 100000 in
theorem limits_at14 (s : ByteArray) (w : World) (h0 : (s.toList == [65, 66, 83]) = false) (h1 : (s.toList == [83, 73, 71, 78]) = false) (h2 : (s.toList == [73, 78, 84]) = false) (h3 : (s.toList == [83, 81, 82, 84]) = false) (h4 : (s.toList == [70, 65, 67, 84]) = false) (h5 : (s.toList == [69, 86, 69, 78]) = false) (h6 : (s.toList == [79, 68, 68]) = false) (h7 : (s.toList == [84, 82, 85, 78, 67]) = false) (h8 : (s.toList == [70, 76, 79, 79, 82]) = false) (h9 : (s.toList == [67, 69, 73, 76, 73, 78, 71]) = false) (h10 : (s.toList == [82, 79, 85, 78, 68]) = false) (h11 : (s.toList == [82, 79, 85, 78, 68, 85, 80]) = false) (h12 : (s.toList == [82, 79, 85, 78, 68, 68, 79, 87, 78]) = false) (h13 : (s.toList == [77, 82, 79, 85, 78, 68]) = false) (h : (s.toList == [77, 79, 68]) = true) :
    Calls Tryz.prog 38 #[.string s] w fun e w' => e = .returned (.tuple #[.int .i64 2, .int .i64 2]) ∧ w = w' := by
  go_enter Tryz.func38, Tryz.ntmps38
  go_wp2
  go_ret2
  exact ⟨rfl, rfl⟩
set_option maxRecDepth 100000 in
theorem limits_at15 (s : ByteArray) (w : World) (h0 : (s.toList == [65, 66, 83]) = false) (h1 : (s.toList == [83, 73, 71, 78]) = false) (h2 : (s.toList == [73, 78, 84]) = false) (h3 : (s.toList == [83, 81, 82, 84]) = false) (h4 : (s.toList == [70, 65, 67, 84]) = false) (h5 : (s.toList == [69, 86, 69, 78]) = false) (h6 : (s.toList == [79, 68, 68]) = false) (h7 : (s.toList == [84, 82, 85, 78, 67]) = false) (h8 : (s.toList == [70, 76, 79, 79, 82]) = false) (h9 : (s.toList == [67, 69, 73, 76, 73, 78, 71]) = false) (h10 : (s.toList == [82, 79, 85, 78, 68]) = false) (h11 : (s.toList == [82, 79, 85, 78, 68, 85, 80]) = false) (h12 : (s.toList == [82, 79, 85, 78, 68, 68, 79, 87, 78]) = false) (h13 : (s.toList == [77, 82, 79, 85, 78, 68]) = false) (h14 : (s.toList == [77, 79, 68]) = false) (h : (s.toList == [81, 85, 79, 84, 73, 69, 78, 84]) = true) :
    Calls Tryz.prog 38 #[.string s] w fun e w' => e = .returned (.tuple #[.int .i64 2, .int .i64 2]) ∧ w = w' := by
  go_enter Tryz.func38, Tryz.ntmps38
  go_wp2
  go_ret2
  exact ⟨rfl, rfl⟩
set_option maxRecDepth 100000 in
theorem limits_at16 (s : ByteArray) (w : World) (h0 : (s.toList == [65, 66, 83]) = false) (h1 : (s.toList == [83, 73, 71, 78]) = false) (h2 : (s.toList == [73, 78, 84]) = false) (h3 : (s.toList == [83, 81, 82, 84]) = false) (h4 : (s.toList == [70, 65, 67, 84]) = false) (h5 : (s.toList == [69, 86, 69, 78]) = false) (h6 : (s.toList == [79, 68, 68]) = false) (h7 : (s.toList == [84, 82, 85, 78, 67]) = false) (h8 : (s.toList == [70, 76, 79, 79, 82]) = false) (h9 : (s.toList == [67, 69, 73, 76, 73, 78, 71]) = false) (h10 : (s.toList == [82, 79, 85, 78, 68]) = false) (h11 : (s.toList == [82, 79, 85, 78, 68, 85, 80]) = false) (h12 : (s.toList == [82, 79, 85, 78, 68, 68, 79, 87, 78]) = false) (h13 : (s.toList == [77, 82, 79, 85, 78, 68]) = false) (h14 : (s.toList == [77, 79, 68]) = false) (h15 : (s.toList == [81, 85, 79, 84, 73, 69, 78, 84]) = false) (h : (s.toList == [80, 79, 87, 69, 82]) = true) :
    Calls Tryz.prog 38 #[.string s] w fun e w' => e = .returned (.tuple #[.int .i64 2, .int .i64 2]) ∧ w = w' := by
  go_enter Tryz.func38, Tryz.ntmps38
  go_wp2
  go_ret2
  exact ⟨rfl, rfl⟩
set_option maxRecDepth 100000 in
theorem limits_at17 (s : ByteArray) (w : World) (h0 : (s.toList == [65, 66, 83]) = false) (h1 : (s.toList == [83, 73, 71, 78]) = false) (h2 : (s.toList == [73, 78, 84]) = false) (h3 : (s.toList == [83, 81, 82, 84]) = false) (h4 : (s.toList == [70, 65, 67, 84]) = false) (h5 : (s.toList == [69, 86, 69, 78]) = false) (h6 : (s.toList == [79, 68, 68]) = false) (h7 : (s.toList == [84, 82, 85, 78, 67]) = false) (h8 : (s.toList == [70, 76, 79, 79, 82]) = false) (h9 : (s.toList == [67, 69, 73, 76, 73, 78, 71]) = false) (h10 : (s.toList == [82, 79, 85, 78, 68]) = false) (h11 : (s.toList == [82, 79, 85, 78, 68, 85, 80]) = false) (h12 : (s.toList == [82, 79, 85, 78, 68, 68, 79, 87, 78]) = false) (h13 : (s.toList == [77, 82, 79, 85, 78, 68]) = false) (h14 : (s.toList == [77, 79, 68]) = false) (h15 : (s.toList == [81, 85, 79, 84, 73, 69, 78, 84]) = false) (h16 : (s.toList == [80, 79, 87, 69, 82]) = false) (h : (s.toList == [67, 76, 65, 77, 80]) = true) :
    Calls Tryz.prog 38 #[.string s] w fun e w' => e = .returned (.tuple #[.int .i64 3, .int .i64 3]) ∧ w = w' := by
  go_enter Tryz.func38, Tryz.ntmps38
  go_wp2
  go_ret2
  exact ⟨rfl, rfl⟩
set_option maxRecDepth 100000 in
theorem limits_at18 (s : ByteArray) (w : World) (h0 : (s.toList == [65, 66, 83]) = false) (h1 : (s.toList == [83, 73, 71, 78]) = false) (h2 : (s.toList == [73, 78, 84]) = false) (h3 : (s.toList == [83, 81, 82, 84]) = false) (h4 : (s.toList == [70, 65, 67, 84]) = false) (h5 : (s.toList == [69, 86, 69, 78]) = false) (h6 : (s.toList == [79, 68, 68]) = false) (h7 : (s.toList == [84, 82, 85, 78, 67]) = false) (h8 : (s.toList == [70, 76, 79, 79, 82]) = false) (h9 : (s.toList == [67, 69, 73, 76, 73, 78, 71]) = false) (h10 : (s.toList == [82, 79, 85, 78, 68]) = false) (h11 : (s.toList == [82, 79, 85, 78, 68, 85, 80]) = false) (h12 : (s.toList == [82, 79, 85, 78, 68, 68, 79, 87, 78]) = false) (h13 : (s.toList == [77, 82, 79, 85, 78, 68]) = false) (h14 : (s.toList == [77, 79, 68]) = false) (h15 : (s.toList == [81, 85, 79, 84, 73, 69, 78, 84]) = false) (h16 : (s.toList == [80, 79, 87, 69, 82]) = false) (h17 : (s.toList == [67, 76, 65, 77, 80]) = false) (h : (s.toList == [71, 67, 68]) = true) :
    Calls Tryz.prog 38 #[.string s] w fun e w' => e = .returned (.tuple #[.int .i64 1, .int .i64 30]) ∧ w = w' := by
  go_enter Tryz.func38, Tryz.ntmps38
  go_wp2
  go_ret2
  exact ⟨rfl, rfl⟩
set_option maxRecDepth 100000 in
theorem limits_at19 (s : ByteArray) (w : World) (h0 : (s.toList == [65, 66, 83]) = false) (h1 : (s.toList == [83, 73, 71, 78]) = false) (h2 : (s.toList == [73, 78, 84]) = false) (h3 : (s.toList == [83, 81, 82, 84]) = false) (h4 : (s.toList == [70, 65, 67, 84]) = false) (h5 : (s.toList == [69, 86, 69, 78]) = false) (h6 : (s.toList == [79, 68, 68]) = false) (h7 : (s.toList == [84, 82, 85, 78, 67]) = false) (h8 : (s.toList == [70, 76, 79, 79, 82]) = false) (h9 : (s.toList == [67, 69, 73, 76, 73, 78, 71]) = false) (h10 : (s.toList == [82, 79, 85, 78, 68]) = false) (h11 : (s.toList == [82, 79, 85, 78, 68, 85, 80]) = false) (h12 : (s.toList == [82, 79, 85, 78, 68, 68, 79, 87, 78]) = false) (h13 : (s.toList == [77, 82, 79, 85, 78, 68]) = false) (h14 : (s.toList == [77, 79, 68]) = false) (h15 : (s.toList == [81, 85, 79, 84, 73, 69, 78, 84]) = false) (h16 : (s.toList == [80, 79, 87, 69, 82]) = false) (h17 : (s.toList == [67, 76, 65, 77, 80]) = false) (h18 : (s.toList == [71, 67, 68]) = false) (h : (s.toList == [76, 67, 77]) = true) :
    Calls Tryz.prog 38 #[.string s] w fun e w' => e = .returned (.tuple #[.int .i64 1, .int .i64 30]) ∧ w = w' := by
  go_enter Tryz.func38, Tryz.ntmps38
  go_wp2
  go_ret2
  exact ⟨rfl, rfl⟩
set_option maxRecDepth 100000 in
theorem limits_at20 (s : ByteArray) (w : World) (h0 : (s.toList == [65, 66, 83]) = false) (h1 : (s.toList == [83, 73, 71, 78]) = false) (h2 : (s.toList == [73, 78, 84]) = false) (h3 : (s.toList == [83, 81, 82, 84]) = false) (h4 : (s.toList == [70, 65, 67, 84]) = false) (h5 : (s.toList == [69, 86, 69, 78]) = false) (h6 : (s.toList == [79, 68, 68]) = false) (h7 : (s.toList == [84, 82, 85, 78, 67]) = false) (h8 : (s.toList == [70, 76, 79, 79, 82]) = false) (h9 : (s.toList == [67, 69, 73, 76, 73, 78, 71]) = false) (h10 : (s.toList == [82, 79, 85, 78, 68]) = false) (h11 : (s.toList == [82, 79, 85, 78, 68, 85, 80]) = false) (h12 : (s.toList == [82, 79, 85, 78, 68, 68, 79, 87, 78]) = false) (h13 : (s.toList == [77, 82, 79, 85, 78, 68]) = false) (h14 : (s.toList == [77, 79, 68]) = false) (h15 : (s.toList == [81, 85, 79, 84, 73, 69, 78, 84]) = false) (h16 : (s.toList == [80, 79, 87, 69, 82]) = false) (h17 : (s.toList == [67, 76, 65, 77, 80]) = false) (h18 : (s.toList == [71, 67, 68]) = false) (h19 : (s.toList == [76, 67, 77]) = false) :
    Calls Tryz.prog 38 #[.string s] w fun e w' => e = .returned (.tuple #[.int .i64 0, .int .i64 0]) ∧ w = w' := by
  go_enter Tryz.func38, Tryz.ntmps38
  go_wp2
  go_ret2
  exact ⟨rfl, rfl⟩
theorem limits_any (s : ByteArray) (w : World) :
    Calls Tryz.prog 38 #[.string s] w fun e w' => e = .returned (.tuple #[.int .i64 (lim s).1, .int .i64 (lim s).2]) ∧ w = w' := by
  unfold lim
  by_cases h0 : (s.toList == [65, 66, 83]) = true
  · rw [if_pos h0]; exact limits_at0 s w  h0
  replace h0 := Bool.eq_false_iff.2 h0
  by_cases h1 : (s.toList == [83, 73, 71, 78]) = true
  · rw [if_neg (by rw [h0]; exact Bool.false_ne_true), if_pos h1]; exact limits_at1 s w h0 h1
  replace h1 := Bool.eq_false_iff.2 h1
  by_cases h2 : (s.toList == [73, 78, 84]) = true
  · rw [if_neg (by rw [h0]; exact Bool.false_ne_true), if_neg (by rw [h1]; exact Bool.false_ne_true), if_pos h2]; exact limits_at2 s w h0 h1 h2
  replace h2 := Bool.eq_false_iff.2 h2
  by_cases h3 : (s.toList == [83, 81, 82, 84]) = true
  · rw [if_neg (by rw [h0]; exact Bool.false_ne_true), if_neg (by rw [h1]; exact Bool.false_ne_true), if_neg (by rw [h2]; exact Bool.false_ne_true), if_pos h3]; exact limits_at3 s w h0 h1 h2 h3
  replace h3 := Bool.eq_false_iff.2 h3
  by_cases h4 : (s.toList == [70, 65, 67, 84]) = true
  · rw [if_neg (by rw [h0]; exact Bool.false_ne_true), if_neg (by rw [h1]; exact Bool.false_ne_true), if_neg (by rw [h2]; exact Bool.false_ne_true), if_neg (by rw [h3]; exact Bool.false_ne_true), if_pos h4]; exact limits_at4 s w h0 h1 h2 h3 h4
  replace h4 := Bool.eq_false_iff.2 h4
  by_cases h5 : (s.toList == [69, 86, 69, 78]) = true
  · rw [if_neg (by rw [h0]; exact Bool.false_ne_true), if_neg (by rw [h1]; exact Bool.false_ne_true), if_neg (by rw [h2]; exact Bool.false_ne_true), if_neg (by rw [h3]; exact Bool.false_ne_true), if_neg (by rw [h4]; exact Bool.false_ne_true), if_pos h5]; exact limits_at5 s w h0 h1 h2 h3 h4 h5
  replace h5 := Bool.eq_false_iff.2 h5
  by_cases h6 : (s.toList == [79, 68, 68]) = true
  · rw [if_neg (by rw [h0]; exact Bool.false_ne_true), if_neg (by rw [h1]; exact Bool.false_ne_true), if_neg (by rw [h2]; exact Bool.false_ne_true), if_neg (by rw [h3]; exact Bool.false_ne_true), if_neg (by rw [h4]; exact Bool.false_ne_true), if_neg (by rw [h5]; exact Bool.false_ne_true), if_pos h6]; exact limits_at6 s w h0 h1 h2 h3 h4 h5 h6
  replace h6 := Bool.eq_false_iff.2 h6
  by_cases h7 : (s.toList == [84, 82, 85, 78, 67]) = true
  · rw [if_neg (by rw [h0]; exact Bool.false_ne_true), if_neg (by rw [h1]; exact Bool.false_ne_true), if_neg (by rw [h2]; exact Bool.false_ne_true), if_neg (by rw [h3]; exact Bool.false_ne_true), if_neg (by rw [h4]; exact Bool.false_ne_true), if_neg (by rw [h5]; exact Bool.false_ne_true), if_neg (by rw [h6]; exact Bool.false_ne_true), if_pos h7]; exact limits_at7 s w h0 h1 h2 h3 h4 h5 h6 h7
  replace h7 := Bool.eq_false_iff.2 h7
  by_cases h8 : (s.toList == [70, 76, 79, 79, 82]) = true
  · rw [if_neg (by rw [h0]; exact Bool.false_ne_true), if_neg (by rw [h1]; exact Bool.false_ne_true), if_neg (by rw [h2]; exact Bool.false_ne_true), if_neg (by rw [h3]; exact Bool.false_ne_true), if_neg (by rw [h4]; exact Bool.false_ne_true), if_neg (by rw [h5]; exact Bool.false_ne_true), if_neg (by rw [h6]; exact Bool.false_ne_true), if_neg (by rw [h7]; exact Bool.false_ne_true), if_pos h8]; exact limits_at8 s w h0 h1 h2 h3 h4 h5 h6 h7 h8
  replace h8 := Bool.eq_false_iff.2 h8
  by_cases h9 : (s.toList == [67, 69, 73, 76, 73, 78, 71]) = true
  · rw [if_neg (by rw [h0]; exact Bool.false_ne_true), if_neg (by rw [h1]; exact Bool.false_ne_true), if_neg (by rw [h2]; exact Bool.false_ne_true), if_neg (by rw [h3]; exact Bool.false_ne_true), if_neg (by rw [h4]; exact Bool.false_ne_true), if_neg (by rw [h5]; exact Bool.false_ne_true), if_neg (by rw [h6]; exact Bool.false_ne_true), if_neg (by rw [h7]; exact Bool.false_ne_true), if_neg (by rw [h8]; exact Bool.false_ne_true), if_pos h9]; exact limits_at9 s w h0 h1 h2 h3 h4 h5 h6 h7 h8 h9
  replace h9 := Bool.eq_false_iff.2 h9
  by_cases h10 : (s.toList == [82, 79, 85, 78, 68]) = true
  · rw [if_neg (by rw [h0]; exact Bool.false_ne_true), if_neg (by rw [h1]; exact Bool.false_ne_true), if_neg (by rw [h2]; exact Bool.false_ne_true), if_neg (by rw [h3]; exact Bool.false_ne_true), if_neg (by rw [h4]; exact Bool.false_ne_true), if_neg (by rw [h5]; exact Bool.false_ne_true), if_neg (by rw [h6]; exact Bool.false_ne_true), if_neg (by rw [h7]; exact Bool.false_ne_true), if_neg (by rw [h8]; exact Bool.false_ne_true), if_neg (by rw [h9]; exact Bool.false_ne_true), if_pos h10]; exact limits_at10 s w h0 h1 h2 h3 h4 h5 h6 h7 h8 h9 h10
  replace h10 := Bool.eq_false_iff.2 h10
  by_cases h11 : (s.toList == [82, 79, 85, 78, 68, 85, 80]) = true
  · rw [if_neg (by rw [h0]; exact Bool.false_ne_true), if_neg (by rw [h1]; exact Bool.false_ne_true), if_neg (by rw [h2]; exact Bool.false_ne_true), if_neg (by rw [h3]; exact Bool.false_ne_true), if_neg (by rw [h4]; exact Bool.false_ne_true), if_neg (by rw [h5]; exact Bool.false_ne_true), if_neg (by rw [h6]; exact Bool.false_ne_true), if_neg (by rw [h7]; exact Bool.false_ne_true), if_neg (by rw [h8]; exact Bool.false_ne_true), if_neg (by rw [h9]; exact Bool.false_ne_true), if_neg (by rw [h10]; exact Bool.false_ne_true), if_pos h11]; exact limits_at11 s w h0 h1 h2 h3 h4 h5 h6 h7 h8 h9 h10 h11
  replace h11 := Bool.eq_false_iff.2 h11
  by_cases h12 : (s.toList == [82, 79, 85, 78, 68, 68, 79, 87, 78]) = true
  · rw [if_neg (by rw [h0]; exact Bool.false_ne_true), if_neg (by rw [h1]; exact Bool.false_ne_true), if_neg (by rw [h2]; exact Bool.false_ne_true), if_neg (by rw [h3]; exact Bool.false_ne_true), if_neg (by rw [h4]; exact Bool.false_ne_true), if_neg (by rw [h5]; exact Bool.false_ne_true), if_neg (by rw [h6]; exact Bool.false_ne_true), if_neg (by rw [h7]; exact Bool.false_ne_true), if_neg (by rw [h8]; exact Bool.false_ne_true), if_neg (by rw [h9]; exact Bool.false_ne_true), if_neg (by rw [h10]; exact Bool.false_ne_true), if_neg (by rw [h11]; exact Bool.false_ne_true), if_pos h12]; exact limits_at12 s w h0 h1 h2 h3 h4 h5 h6 h7 h8 h9 h10 h11 h12
  replace h12 := Bool.eq_false_iff.2 h12
  by_cases h13 : (s.toList == [77, 82, 79, 85, 78, 68]) = true
  · rw [if_neg (by rw [h0]; exact Bool.false_ne_true), if_neg (by rw [h1]; exact Bool.false_ne_true), if_neg (by rw [h2]; exact Bool.false_ne_true), if_neg (by rw [h3]; exact Bool.false_ne_true), if_neg (by rw [h4]; exact Bool.false_ne_true), if_neg (by rw [h5]; exact Bool.false_ne_true), if_neg (by rw [h6]; exact Bool.false_ne_true), if_neg (by rw [h7]; exact Bool.false_ne_true), if_neg (by rw [h8]; exact Bool.false_ne_true), if_neg (by rw [h9]; exact Bool.false_ne_true), if_neg (by rw [h10]; exact Bool.false_ne_true), if_neg (by rw [h11]; exact Bool.false_ne_true), if_neg (by rw [h12]; exact Bool.false_ne_true), if_pos h13]; exact limits_at13 s w h0 h1 h2 h3 h4 h5 h6 h7 h8 h9 h10 h11 h12 h13
  replace h13 := Bool.eq_false_iff.2 h13
  by_cases h14 : (s.toList == [77, 79, 68]) = true
  · rw [if_neg (by rw [h0]; exact Bool.false_ne_true), if_neg (by rw [h1]; exact Bool.false_ne_true), if_neg (by rw [h2]; exact Bool.false_ne_true), if_neg (by rw [h3]; exact Bool.false_ne_true), if_neg (by rw [h4]; exact Bool.false_ne_true), if_neg (by rw [h5]; exact Bool.false_ne_true), if_neg (by rw [h6]; exact Bool.false_ne_true), if_neg (by rw [h7]; exact Bool.false_ne_true), if_neg (by rw [h8]; exact Bool.false_ne_true), if_neg (by rw [h9]; exact Bool.false_ne_true), if_neg (by rw [h10]; exact Bool.false_ne_true), if_neg (by rw [h11]; exact Bool.false_ne_true), if_neg (by rw [h12]; exact Bool.false_ne_true), if_neg (by rw [h13]; exact Bool.false_ne_true), if_pos h14]; exact limits_at14 s w h0 h1 h2 h3 h4 h5 h6 h7 h8 h9 h10 h11 h12 h13 h14
  replace h14 := Bool.eq_false_iff.2 h14
  by_cases h15 : (s.toList == [81, 85, 79, 84, 73, 69, 78, 84]) = true
  · rw [if_neg (by rw [h0]; exact Bool.false_ne_true), if_neg (by rw [h1]; exact Bool.false_ne_true), if_neg (by rw [h2]; exact Bool.false_ne_true), if_neg (by rw [h3]; exact Bool.false_ne_true), if_neg (by rw [h4]; exact Bool.false_ne_true), if_neg (by rw [h5]; exact Bool.false_ne_true), if_neg (by rw [h6]; exact Bool.false_ne_true), if_neg (by rw [h7]; exact Bool.false_ne_true), if_neg (by rw [h8]; exact Bool.false_ne_true), if_neg (by rw [h9]; exact Bool.false_ne_true), if_neg (by rw [h10]; exact Bool.false_ne_true), if_neg (by rw [h11]; exact Bool.false_ne_true), if_neg (by rw [h12]; exact Bool.false_ne_true), if_neg (by rw [h13]; exact Bool.false_ne_true), if_neg (by rw [h14]; exact Bool.false_ne_true), if_pos h15]; exact limits_at15 s w h0 h1 h2 h3 h4 h5 h6 h7 h8 h9 h10 h11 h12 h13 h14 h15
  replace h15 := Bool.eq_false_iff.2 h15
  by_cases h16 : (s.toList == [80, 79, 87, 69, 82]) = true
  · rw [if_neg (by rw [h0]; exact Bool.false_ne_true), if_neg (by rw [h1]; exact Bool.false_ne_true), if_neg (by rw [h2]; exact Bool.false_ne_true), if_neg (by rw [h3]; exact Bool.false_ne_true), if_neg (by rw [h4]; exact Bool.false_ne_true), if_neg (by rw [h5]; exact Bool.false_ne_true), if_neg (by rw [h6]; exact Bool.false_ne_true), if_neg (by rw [h7]; exact Bool.false_ne_true), if_neg (by rw [h8]; exact Bool.false_ne_true), if_neg (by rw [h9]; exact Bool.false_ne_true), if_neg (by rw [h10]; exact Bool.false_ne_true), if_neg (by rw [h11]; exact Bool.false_ne_true), if_neg (by rw [h12]; exact Bool.false_ne_true), if_neg (by rw [h13]; exact Bool.false_ne_true), if_neg (by rw [h14]; exact Bool.false_ne_true), if_neg (by rw [h15]; exact Bool.false_ne_true), if_pos h16]; exact limits_at16 s w h0 h1 h2 h3 h4 h5 h6 h7 h8 h9 h10 h11 h12 h13 h14 h15 h16
  replace h16 := Bool.eq_false_iff.2 h16
  by_cases h17 : (s.toList == [67, 76, 65, 77, 80]) = true
  · rw [if_neg (by rw [h0]; exact Bool.false_ne_true), if_neg (by rw [h1]; exact Bool.false_ne_true), if_neg (by rw [h2]; exact Bool.false_ne_true), if_neg (by rw [h3]; exact Bool.false_ne_true), if_neg (by rw [h4]; exact Bool.false_ne_true), if_neg (by rw [h5]; exact Bool.false_ne_true), if_neg (by rw [h6]; exact Bool.false_ne_true), if_neg (by rw [h7]; exact Bool.false_ne_true), if_neg (by rw [h8]; exact Bool.false_ne_true), if_neg (by rw [h9]; exact Bool.false_ne_true), if_neg (by rw [h10]; exact Bool.false_ne_true), if_neg (by rw [h11]; exact Bool.false_ne_true), if_neg (by rw [h12]; exact Bool.false_ne_true), if_neg (by rw [h13]; exact Bool.false_ne_true), if_neg (by rw [h14]; exact Bool.false_ne_true), if_neg (by rw [h15]; exact Bool.false_ne_true), if_neg (by rw [h16]; exact Bool.false_ne_true), if_pos h17]; exact limits_at17 s w h0 h1 h2 h3 h4 h5 h6 h7 h8 h9 h10 h11 h12 h13 h14 h15 h16 h17
  replace h17 := Bool.eq_false_iff.2 h17
  by_cases h18 : (s.toList == [71, 67, 68]) = true
  · rw [if_neg (by rw [h0]; exact Bool.false_ne_true), if_neg (by rw [h1]; exact Bool.false_ne_true), if_neg (by rw [h2]; exact Bool.false_ne_true), if_neg (by rw [h3]; exact Bool.false_ne_true), if_neg (by rw [h4]; exact Bool.false_ne_true), if_neg (by rw [h5]; exact Bool.false_ne_true), if_neg (by rw [h6]; exact Bool.false_ne_true), if_neg (by rw [h7]; exact Bool.false_ne_true), if_neg (by rw [h8]; exact Bool.false_ne_true), if_neg (by rw [h9]; exact Bool.false_ne_true), if_neg (by rw [h10]; exact Bool.false_ne_true), if_neg (by rw [h11]; exact Bool.false_ne_true), if_neg (by rw [h12]; exact Bool.false_ne_true), if_neg (by rw [h13]; exact Bool.false_ne_true), if_neg (by rw [h14]; exact Bool.false_ne_true), if_neg (by rw [h15]; exact Bool.false_ne_true), if_neg (by rw [h16]; exact Bool.false_ne_true), if_neg (by rw [h17]; exact Bool.false_ne_true), if_pos h18]; exact limits_at18 s w h0 h1 h2 h3 h4 h5 h6 h7 h8 h9 h10 h11 h12 h13 h14 h15 h16 h17 h18
  replace h18 := Bool.eq_false_iff.2 h18
  by_cases h19 : (s.toList == [76, 67, 77]) = true
  · rw [if_neg (by rw [h0]; exact Bool.false_ne_true), if_neg (by rw [h1]; exact Bool.false_ne_true), if_neg (by rw [h2]; exact Bool.false_ne_true), if_neg (by rw [h3]; exact Bool.false_ne_true), if_neg (by rw [h4]; exact Bool.false_ne_true), if_neg (by rw [h5]; exact Bool.false_ne_true), if_neg (by rw [h6]; exact Bool.false_ne_true), if_neg (by rw [h7]; exact Bool.false_ne_true), if_neg (by rw [h8]; exact Bool.false_ne_true), if_neg (by rw [h9]; exact Bool.false_ne_true), if_neg (by rw [h10]; exact Bool.false_ne_true), if_neg (by rw [h11]; exact Bool.false_ne_true), if_neg (by rw [h12]; exact Bool.false_ne_true), if_neg (by rw [h13]; exact Bool.false_ne_true), if_neg (by rw [h14]; exact Bool.false_ne_true), if_neg (by rw [h15]; exact Bool.false_ne_true), if_neg (by rw [h16]; exact Bool.false_ne_true), if_neg (by rw [h17]; exact Bool.false_ne_true), if_neg (by rw [h18]; exact Bool.false_ne_true), if_pos h19]; exact limits_at19 s w h0 h1 h2 h3 h4 h5 h6 h7 h8 h9 h10 h11 h12 h13 h14 h15 h16 h17 h18 h19
  replace h19 := Bool.eq_false_iff.2 h19
  rw [if_neg (by rw [h0]; exact Bool.false_ne_true), if_neg (by rw [h1]; exact Bool.false_ne_true), if_neg (by rw [h2]; exact Bool.false_ne_true), if_neg (by rw [h3]; exact Bool.false_ne_true), if_neg (by rw [h4]; exact Bool.false_ne_true), if_neg (by rw [h5]; exact Bool.false_ne_true), if_neg (by rw [h6]; exact Bool.false_ne_true), if_neg (by rw [h7]; exact Bool.false_ne_true), if_neg (by rw [h8]; exact Bool.false_ne_true), if_neg (by rw [h9]; exact Bool.false_ne_true), if_neg (by rw [h10]; exact Bool.false_ne_true), if_neg (by rw [h11]; exact Bool.false_ne_true), if_neg (by rw [h12]; exact Bool.false_ne_true), if_neg (by rw [h13]; exact Bool.false_ne_true), if_neg (by rw [h14]; exact Bool.false_ne_true), if_neg (by rw [h15]; exact Bool.false_ne_true), if_neg (by rw [h16]; exact Bool.false_ne_true), if_neg (by rw [h17]; exact Bool.false_ne_true), if_neg (by rw [h18]; exact Bool.false_ne_true), if_neg (by rw [h19]; exact Bool.false_ne_true)]; exact limits_at20 s w h0 h1 h2 h3 h4 h5 h6 h7 h8 h9 h10 h11 h12 h13 h14 h15 h16 h17 h18 h19
end Go.Proofs.YtkobkeopajohiaaGreatDoor
