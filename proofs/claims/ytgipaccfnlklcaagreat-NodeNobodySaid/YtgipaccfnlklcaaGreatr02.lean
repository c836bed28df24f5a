/- What was played ahead: it was so. -/
import Derived.Test.YtgipaccfnlklcaaGreatr00
import Derived.KernelRfl
set_option linter.unusedVariables false
set_option maxRecDepth 100000
namespace Go.Proofs.YtgipaccfnlklcaaGreat
open Go.L

theorem ok11_1 : RowOk ks11 rs11 (locF false ks11 rs11 (F11 2000)) rw11_1 :=
 (by kernel_rfl : ((encVs ks11 rw11_1.1 (some rw11_1.2.1)).bind (locF false ks11 rs11 (F11 2000))).map (decVs rs11) = some (rw11_1.2.2.1, rw11_1.2.2.2))
theorem ok11_2 : RowOk ks11 rs11 (locF false ks11 rs11 (F11 2000)) rw11_2 :=
 (by kernel_rfl : ((encVs ks11 rw11_2.1 (some rw11_2.2.1)).bind (locF false ks11 rs11 (F11 2000))).map (decVs rs11) = some (rw11_2.2.2.1, rw11_2.2.2.2))

end Go.Proofs.YtgipaccfnlklcaaGreat
