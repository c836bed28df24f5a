/- What was played ahead: it was so. -/
import Derived.Test.YtgipaccfnlklcaaGreatDoorr10
import Derived.KernelRfl
set_option linter.unusedVariables false
set_option maxRecDepth 100000
namespace Go.Proofs.YtgipaccfnlklcaaGreatDoor
open Go.L

theorem ok7_0 : RowOk ks7 rs7 (locF false ks7 rs7 (F7 2000)) rw7_0 :=
 (by kernel_rfl : ((encVs ks7 rw7_0.1 (some rw7_0.2.1)).bind (locF false ks7 rs7 (F7 2000))).map (decVs rs7) = some (rw7_0.2.2.1, rw7_0.2.2.2))

end Go.Proofs.YtgipaccfnlklcaaGreatDoor
