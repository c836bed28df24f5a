/- What was played ahead: it was so. -/
import Derived.Test.YtgipaccfnlklcaaGreatr00
import Derived.KernelRfl
set_option linter.unusedVariables false
set_option maxRecDepth 100000
namespace Go.Proofs.YtgipaccfnlklcaaGreat
open Go.L

theorem ok34_0 : RowOk ks34 rs34 (locF false ks34 rs34 (F34 2000)) rw34_0 :=
 (by kernel_rfl : ((encVs ks34 rw34_0.1 (some rw34_0.2.1)).bind (locF false ks34 rs34 (F34 2000))).map (decVs rs34) = some (rw34_0.2.2.1, rw34_0.2.2.2))
theorem ok9_0 : RowOk ks9 rs9 (locF false ks9 rs9 (F9 2000)) rw9_0 :=
 (by kernel_rfl : ((encVs ks9 rw9_0.1 (some rw9_0.2.1)).bind (locF false ks9 rs9 (F9 2000))).map (decVs rs9) = some (rw9_0.2.2.1, rw9_0.2.2.2))
theorem ok11_0 : RowOk ks11 rs11 (locF false ks11 rs11 (F11 2000)) rw11_0 :=
 (by kernel_rfl : ((encVs ks11 rw11_0.1 (some rw11_0.2.1)).bind (locF false ks11 rs11 (F11 2000))).map (decVs rs11) = some (rw11_0.2.2.1, rw11_0.2.2.2))

end Go.Proofs.YtgipaccfnlklcaaGreat
