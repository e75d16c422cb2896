/-
  THE WALK of the law ValueOrder, under the name that the printed text asks for.
-/
import Derived.Test.YtkobkeopajohiaaDoorValueOrderW
namespace Go.Proofs.YtkobkeopajohiaaDoor
open Go.RowKit Go.Lib
theorem valueOrder_walk (w : World) (p q o : P) (hM : GM w) (hU : Lib.Utf8Tabs 5 6 w) (h7 : 6 < w.heap.size) (hp : p.s.size ≤ 9223372036854775800) (hq : q.s.size ≤ 9223372036854775800) (ho : o.s.size ≤ 9223372036854775800) :
    Calls Tryd.prog 13 #[p.val, q.val, o.val] w fun e w' => e = .returned (.bool true) ∧ Below w.heap.size w w' :=
  valueOrder_main w p q o hM hU h7 hp hq ho
end Go.Proofs.YtkobkeopajohiaaDoor
