/- What was played ahead: it was so. -/
import Derived.Test.YtgipaccfnlklcaaGreatDoorr20
import Derived.KernelRfl
set_option linter.unusedVariables false
set_option maxRecDepth 100000
namespace Go.Proofs.YtgipaccfnlklcaaGreatDoor
open Go.L

theorem ok8_0 : RowOk ks8 rs8 (locF false ks8 rs8 (F8 2000)) rw8_0 :=
 (by kernel_rfl : ((encVs ks8 rw8_0.1 (some rw8_0.2.1)).bind (locF false ks8 rs8 (F8 2000))).map (decVs rs8) = some (rw8_0.2.2.1, rw8_0.2.2.2))

end Go.Proofs.YtgipaccfnlklcaaGreatDoor
