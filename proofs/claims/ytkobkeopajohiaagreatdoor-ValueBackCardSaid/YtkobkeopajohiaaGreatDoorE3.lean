/-
  THE TABLES OF unicode/utf8, FROM A ROW's LIST; the program's types are laid out.
-/
import Derived.Test.YtkobkeopajohiaaGreatDoorBase
import Derived.Test.YtkobkeopajohiaaGreatDoorU1
import Derived.Lib.LaidU8T
import Derived.Carry
namespace Go.Proofs
open Go.Shelf Go.Lib
theorem Tryz.u8types : U8Types Tryz.prog Tryz.lays197_ren := { t5 := Tryz.underlying5, t119 := Tryz.underlying200, t138 := Tryz.underlying202, t139 := Tryz.underlying203 }
theorem Tryz.u8extra : U8Extra Tryz.prog Tryz.lays197_ren := { n3 := by kernel_rfl, n4 := by kernel_rfl, y3 := by kernel_rfl, y4 := by kernel_rfl, c5 := by kernel_rfl, c119 := by kernel_rfl, c138 := by kernel_rfl }
theorem Tryz.laidOut : laidOutB Tryz.prog = true := by kernel_rfl
end Go.Proofs
namespace Go.Proofs.YtkobkeopajohiaaGreatDoor
open Go.RowKit Go.Lib
theorem first_eq : (Rows.laid_unicode_utf8_first : DataW Unit) = firstData := by kernel_rfl
theorem accept_eq : (Rows.laid_unicode_utf8_acceptRanges : DataW Unit) = acceptData := by kernel_rfl
theorem gu_of_laid {W : World} {l : List (String × DataW Unit)} (h : laidMet Tryz.prog l W) (h3 : ("unicode/utf8.first", Rows.laid_unicode_utf8_first) ∈ l) (h4 : ("unicode/utf8.acceptRanges", Rows.laid_unicode_utf8_acceptRanges) ∈ l) :
    Lib.Utf8Tabs 4 5 W :=
  utf8Tabs_of_readsT Tryz.u8types Tryz.u8extra (first_eq ▸ laidMet.reads h h3) (accept_eq ▸ laidMet.reads h h4)
theorem six_lt {W : World} (h : Lib.Utf8Tabs 4 5 W) : 5 < W.heap.size := lt_of_cell (h.2 0 (by decide)).1
end Go.Proofs.YtkobkeopajohiaaGreatDoor
