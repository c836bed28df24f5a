/- What was played ahead: it was so. -/
import Derived.Test.YtgipaccfnlklcaaGreatDoorr00
import Derived.KernelRfl
set_option linter.unusedVariables false
set_option maxRecDepth 100000
namespace Go.Proofs.YtgipaccfnlklcaaGreatDoor
open Go.L

theorem ok22_0 : RowOk ks22 rs22 (locF false ks22 rs22 (F22 2000)) rw22_0 :=
 (by kernel_rfl : ((encVs ks22 rw22_0.1 (some rw22_0.2.1)).bind (locF false ks22 rs22 (F22 2000))).map (decVs rs22) = some (rw22_0.2.2.1, rw22_0.2.2.2))
theorem ok22_1 : RowOk ks22 rs22 (locF false ks22 rs22 (F22 2000)) rw22_1 :=
 (by kernel_rfl : ((encVs ks22 rw22_1.1 (some rw22_1.2.1)).bind (locF false ks22 rs22 (F22 2000))).map (decVs rs22) = some (rw22_1.2.2.1, rw22_1.2.2.2))
theorem ok22_2 : RowOk ks22 rs22 (locF false ks22 rs22 (F22 2000)) rw22_2 :=
 (by kernel_rfl : ((encVs ks22 rw22_2.1 (some rw22_2.2.1)).bind (locF false ks22 rs22 (F22 2000))).map (decVs rs22) = some (rw22_2.2.2.1, rw22_2.2.2.2))

end Go.Proofs.YtgipaccfnlklcaaGreatDoor
