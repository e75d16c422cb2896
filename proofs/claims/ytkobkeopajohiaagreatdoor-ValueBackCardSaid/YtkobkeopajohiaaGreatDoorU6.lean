/-
  THE PLAIN LAW of signs: at a place of a text.
-/
import Derived.Test.YtkobkeopajohiaaGreatDoorU5
import Derived.Test.YtkobkeopajohiaaGreatDoorU2
namespace Go.Proofs.YtkobkeopajohiaaGreatDoor
open Go.Lib
/-- .. at a place of a text -/
def signAt (s : ByteArray) (p : Nat) : Nat := signW (s.size - p) (s.get! p).toNat (s.get! (p + 1)).toNat (s.get! (p + 2)).toNat (s.get! (p + 3)).toNat
theorem signAt_eq (s : ByteArray) (p : Nat) : signAt s p = if badAt s p then 0 else (Utf8.decode s p).2 := by
  unfold signAt badAt
  rw [decode_cut, signW_eq _ _ _ _ _ (UInt8.toNat_lt _) (UInt8.toNat_lt _) (UInt8.toNat_lt _) (UInt8.toNat_lt _), decode_at]
  simp only [Bool.and_eq_true, beq_iff_eq, and_comm]
end Go.Proofs.YtkobkeopajohiaaGreatDoor
