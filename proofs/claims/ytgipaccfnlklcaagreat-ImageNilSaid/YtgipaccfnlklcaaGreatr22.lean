/- What was played ahead: it was so. -/
import Derived.Test.YtgipaccfnlklcaaGreatr20
import Derived.KernelRfl
set_option linter.unusedVariables false
set_option maxRecDepth 100000
namespace Go.Proofs.YtgipaccfnlklcaaGreat
open Go.L

theorem ok29_0 : RowOk ks29 rs29 (locF false ks29 rs29 (F29 2000)) rw29_0 :=
 (by kernel_rfl : ((encVs ks29 rw29_0.1 (some rw29_0.2.1)).bind (locF false ks29 rs29 (F29 2000))).map (decVs rs29) = some (rw29_0.2.2.1, rw29_0.2.2.2))

end Go.Proofs.YtgipaccfnlklcaaGreat
