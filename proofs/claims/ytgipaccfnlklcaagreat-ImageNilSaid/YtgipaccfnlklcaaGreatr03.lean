/- What was played ahead: it was so. -/
import Derived.Test.YtgipaccfnlklcaaGreatr00
import Derived.KernelRfl
set_option linter.unusedVariables false
set_option maxRecDepth 100000
namespace Go.Proofs.YtgipaccfnlklcaaGreat
open Go.L

theorem ok72_0 : RowOk ks72 rs72 (locF false ks72 rs72 (F72 2000)) rw72_0 :=
 (by kernel_rfl : ((encVs ks72 rw72_0.1 (some rw72_0.2.1)).bind (locF false ks72 rs72 (F72 2000))).map (decVs rs72) = some (rw72_0.2.2.1, rw72_0.2.2.2))
theorem ok72_1 : RowOk ks72 rs72 (locF false ks72 rs72 (F72 2000)) rw72_1 :=
 (by kernel_rfl : ((encVs ks72 rw72_1.1 (some rw72_1.2.1)).bind (locF false ks72 rs72 (F72 2000))).map (decVs rs72) = some (rw72_1.2.2.1, rw72_1.2.2.2))

end Go.Proofs.YtgipaccfnlklcaaGreat
