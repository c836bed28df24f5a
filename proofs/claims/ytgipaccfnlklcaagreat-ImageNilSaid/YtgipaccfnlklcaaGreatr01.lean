/- What was played ahead: it was so. -/
import Derived.Test.YtgipaccfnlklcaaGreatr00
import Derived.KernelRfl
set_option linter.unusedVariables false
set_option maxRecDepth 100000
namespace Go.Proofs.YtgipaccfnlklcaaGreat
open Go.L

theorem ok34_0 : RowOk ks34 rs34 (locF false ks34 rs34 (F34 2000)) rw34_0 :=
 (by kernel_rfl : ((encVs ks34 rw34_0.1 (some rw34_0.2.1)).bind (locF false ks34 rs34 (F34 2000))).map (decVs rs34) = some (rw34_0.2.2.1, rw34_0.2.2.2))
theorem ok34_1 : RowOk ks34 rs34 (locF false ks34 rs34 (F34 2000)) rw34_1 :=
 (by kernel_rfl : ((encVs ks34 rw34_1.1 (some rw34_1.2.1)).bind (locF false ks34 rs34 (F34 2000))).map (decVs rs34) = some (rw34_1.2.2.1, rw34_1.2.2.2))
theorem ok34_2 : RowOk ks34 rs34 (locF false ks34 rs34 (F34 2000)) rw34_2 :=
 (by kernel_rfl : ((encVs ks34 rw34_2.1 (some rw34_2.2.1)).bind (locF false ks34 rs34 (F34 2000))).map (decVs rs34) = some (rw34_2.2.2.1, rw34_2.2.2.2))

end Go.Proofs.YtgipaccfnlklcaaGreat
