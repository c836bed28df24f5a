/- What was played ahead: it was so. -/
import Derived.Test.YtgipaccfnlklcaaGreatr00
import Derived.KernelRfl
set_option linter.unusedVariables false
set_option maxRecDepth 100000
namespace Go.Proofs.YtgipaccfnlklcaaGreat
open Go.L

theorem ok11_3 : RowOk ks11 rs11 (locF false ks11 rs11 (F11 2000)) rw11_3 :=
 (by kernel_rfl : ((encVs ks11 rw11_3.1 (some rw11_3.2.1)).bind (locF false ks11 rs11 (F11 2000))).map (decVs rs11) = some (rw11_3.2.2.1, rw11_3.2.2.2))
theorem ok11_4 : RowOk ks11 rs11 (locF false ks11 rs11 (F11 2000)) rw11_4 :=
 (by kernel_rfl : ((encVs ks11 rw11_4.1 (some rw11_4.2.1)).bind (locF false ks11 rs11 (F11 2000))).map (decVs rs11) = some (rw11_4.2.2.1, rw11_4.2.2.2))

end Go.Proofs.YtgipaccfnlklcaaGreat
