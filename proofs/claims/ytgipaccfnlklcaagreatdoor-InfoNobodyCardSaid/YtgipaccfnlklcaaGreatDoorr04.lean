/- What was played ahead: it was so. -/
import Derived.Test.YtgipaccfnlklcaaGreatDoorr00
import Derived.KernelRfl
set_option linter.unusedVariables false
set_option maxRecDepth 100000
namespace Go.Proofs.YtgipaccfnlklcaaGreatDoor
open Go.L

theorem ok18_1 : RowOk ks18 rs18 (locF false ks18 rs18 (F18 2000)) rw18_1 :=
 (by kernel_rfl : ((encVs ks18 rw18_1.1 (some rw18_1.2.1)).bind (locF false ks18 rs18 (F18 2000))).map (decVs rs18) = some (rw18_1.2.2.1, rw18_1.2.2.2))
theorem ok18_2 : RowOk ks18 rs18 (locF false ks18 rs18 (F18 2000)) rw18_2 :=
 (by kernel_rfl : ((encVs ks18 rw18_2.1 (some rw18_2.2.1)).bind (locF false ks18 rs18 (F18 2000))).map (decVs rs18) = some (rw18_2.2.2.1, rw18_2.2.2.2))

end Go.Proofs.YtgipaccfnlklcaaGreatDoor
