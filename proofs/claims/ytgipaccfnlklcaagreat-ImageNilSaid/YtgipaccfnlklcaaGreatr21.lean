/- What was played ahead: it was so. -/
import Derived.Test.YtgipaccfnlklcaaGreatr20
import Derived.KernelRfl
set_option linter.unusedVariables false
set_option maxRecDepth 100000
namespace Go.Proofs.YtgipaccfnlklcaaGreat
open Go.L

theorem ok6_0 : RowOk ks6 rs6 (locF false ks6 rs6 (F6 2000)) rw6_0 :=
 (by kernel_rfl : ((encVs ks6 rw6_0.1 (some rw6_0.2.1)).bind (locF false ks6 rs6 (F6 2000))).map (decVs rs6) = some (rw6_0.2.2.1, rw6_0.2.2.2))

end Go.Proofs.YtgipaccfnlklcaaGreat
