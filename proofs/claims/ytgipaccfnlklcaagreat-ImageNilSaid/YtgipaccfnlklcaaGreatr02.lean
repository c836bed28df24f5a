/- What was played ahead: it was so. -/
import Derived.Test.YtgipaccfnlklcaaGreatr00
import Derived.KernelRfl
set_option linter.unusedVariables false
set_option maxRecDepth 100000
namespace Go.Proofs.YtgipaccfnlklcaaGreat
open Go.L

theorem ok34_3 : RowOk ks34 rs34 (locF false ks34 rs34 (F34 2000)) rw34_3 :=
 (by kernel_rfl : ((encVs ks34 rw34_3.1 (some rw34_3.2.1)).bind (locF false ks34 rs34 (F34 2000))).map (decVs rs34) = some (rw34_3.2.2.1, rw34_3.2.2.2))
theorem ok14_0 : RowOk ks14 rs14 (locF false ks14 rs14 (F14 2000)) rw14_0 :=
 (by kernel_rfl : ((encVs ks14 rw14_0.1 (some rw14_0.2.1)).bind (locF false ks14 rs14 (F14 2000))).map (decVs rs14) = some (rw14_0.2.2.1, rw14_0.2.2.2))

end Go.Proofs.YtgipaccfnlklcaaGreat
