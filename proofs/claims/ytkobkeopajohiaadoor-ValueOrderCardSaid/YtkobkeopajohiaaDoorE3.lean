/-
  THE TABLES OF unicode/utf8, FROM A ROW's LIST; the program's types are laid out.
-/
import Derived.Test.YtkobkeopajohiaaDoorBase
import Derived.Test.YtkobkeopajohiaaDoorU1
import Derived.Lib.LaidU8T
import Derived.Carry
namespace Go.Proofs
open Go.Shelf Go.Lib
theorem Tryd.u8types : U8Types Tryd.prog Tryd.lays197_ren := { t5 := Tryd.underlying5, t119 := Tryd.underlying183, t138 := Tryd.underlying185, t139 := Tryd.underlying186 }
theorem Tryd.u8extra : U8Extra Tryd.prog Tryd.lays197_ren := { n3 := by kernel_rfl, n4 := by kernel_rfl, y3 := by kernel_rfl, y4 := by kernel_rfl, c5 := by kernel_rfl, c119 := by kernel_rfl, c138 := by kernel_rfl }
theorem Tryd.laidOut : laidOutB Tryd.prog = true := by kernel_rfl
end Go.Proofs
namespace Go.Proofs.YtkobkeopajohiaaDoor
open Go.RowKit Go.Lib
theorem first_eq : (Rows.laid_unicode_utf8_first : DataW Unit) = firstData := by kernel_rfl
theorem accept_eq : (Rows.laid_unicode_utf8_acceptRanges : DataW Unit) = acceptData := by kernel_rfl
theorem gu_of_laid {W : World} {l : List (String × DataW Unit)} (h : laidMet Tryd.prog l W) (h3 : ("unicode/utf8.first", Rows.laid_unicode_utf8_first) ∈ l) (h4 : ("unicode/utf8.acceptRanges", Rows.laid_unicode_utf8_acceptRanges) ∈ l) :
    Lib.Utf8Tabs 5 6 W :=
  utf8Tabs_of_readsT Tryd.u8types Tryd.u8extra (first_eq ▸ laidMet.reads h h3) (accept_eq ▸ laidMet.reads h h4)
theorem six_lt {W : World} (h : Lib.Utf8Tabs 5 6 W) : 6 < W.heap.size := lt_of_cell (h.2 0 (by decide)).1
end Go.Proofs.YtkobkeopajohiaaDoor
