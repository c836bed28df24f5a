/- What was played ahead: it was so. -/
import Derived.Test.YtgipaccfnlklcaaGreatr10
import Derived.KernelRfl
set_option linter.unusedVariables false
set_option maxRecDepth 100000
namespace Go.Proofs.YtgipaccfnlklcaaGreat
open Go.L

theorem ok12_0 : RowOk ks12 rs12 (locF false ks12 rs12 (F12 2000)) rw12_0 :=
 (by kernel_rfl : ((encVs ks12 rw12_0.1 (some rw12_0.2.1)).bind (locF false ks12 rs12 (F12 2000))).map (decVs rs12) = some (rw12_0.2.2.1, rw12_0.2.2.2))

end Go.Proofs.YtgipaccfnlklcaaGreat
