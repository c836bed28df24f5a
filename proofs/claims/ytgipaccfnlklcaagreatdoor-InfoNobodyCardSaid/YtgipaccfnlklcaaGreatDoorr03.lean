/- What was played ahead: it was so. -/
import Derived.Test.YtgipaccfnlklcaaGreatDoorr00
import Derived.KernelRfl
set_option linter.unusedVariables false
set_option maxRecDepth 100000
namespace Go.Proofs.YtgipaccfnlklcaaGreatDoor
open Go.L

theorem ok22_3 : RowOk ks22 rs22 (locF false ks22 rs22 (F22 2000)) rw22_3 :=
 (by kernel_rfl : ((encVs ks22 rw22_3.1 (some rw22_3.2.1)).bind (locF false ks22 rs22 (F22 2000))).map (decVs rs22) = some (rw22_3.2.2.1, rw22_3.2.2.2))
theorem ok5_0 : RowOk ks5 rs5 (locF false ks5 rs5 (F5 2000)) rw5_0 :=
 (by kernel_rfl : ((encVs ks5 rw5_0.1 (some rw5_0.2.1)).bind (locF false ks5 rs5 (F5 2000))).map (decVs rs5) = some (rw5_0.2.2.1, rw5_0.2.2.2))
theorem ok18_0 : RowOk ks18 rs18 (locF false ks18 rs18 (F18 2000)) rw18_0 :=
 (by kernel_rfl : ((encVs ks18 rw18_0.1 (some rw18_0.2.1)).bind (locF false ks18 rs18 (F18 2000))).map (decVs rs18) = some (rw18_0.2.2.1, rw18_0.2.2.2))

end Go.Proofs.YtgipaccfnlklcaaGreatDoor
