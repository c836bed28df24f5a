/- What was played ahead: it was so. -/
import Derived.Test.YtgipaccfnlklcaaGreatDoorr20
import Derived.KernelRfl
set_option linter.unusedVariables false
set_option maxRecDepth 100000
namespace Go.Proofs.YtgipaccfnlklcaaGreatDoor
open Go.L

theorem ok9_0 : RowOk ks9 rs9 (locF false ks9 rs9 (F9 2000)) rw9_0 :=
 (by kernel_rfl : ((encVs ks9 rw9_0.1 (some rw9_0.2.1)).bind (locF false ks9 rs9 (F9 2000))).map (decVs rs9) = some (rw9_0.2.2.1, rw9_0.2.2.2))

end Go.Proofs.YtgipaccfnlklcaaGreatDoor
