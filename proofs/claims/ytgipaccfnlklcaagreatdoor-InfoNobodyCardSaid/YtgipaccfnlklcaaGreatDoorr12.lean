/- What was played ahead: it was so. -/
import Derived.Test.YtgipaccfnlklcaaGreatDoorr10
import Derived.KernelRfl
set_option linter.unusedVariables false
set_option maxRecDepth 100000
namespace Go.Proofs.YtgipaccfnlklcaaGreatDoor
open Go.L

theorem ok19_0 : RowOk ks19 rs19 (locF false ks19 rs19 (F19 2000)) rw19_0 :=
 (by kernel_rfl : ((encVs ks19 rw19_0.1 (some rw19_0.2.1)).bind (locF false ks19 rs19 (F19 2000))).map (decVs rs19) = some (rw19_0.2.2.1, rw19_0.2.2.2))

end Go.Proofs.YtgipaccfnlklcaaGreatDoor
