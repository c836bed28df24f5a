/- What was played ahead: it was so. -/
import Derived.Test.YtgipaccfnlklcaaGreatr00
import Derived.KernelRfl
set_option linter.unusedVariables false
set_option maxRecDepth 100000
namespace Go.Proofs.YtgipaccfnlklcaaGreat
open Go.L

theorem ok342_0 : RowOk ks342 rs342 (locF false ks342 rs342 (F342 2000)) rw342_0 :=
 (by kernel_rfl : ((encVs ks342 rw342_0.1 (some rw342_0.2.1)).bind (locF false ks342 rs342 (F342 2000))).map (decVs rs342) = some (rw342_0.2.2.1, rw342_0.2.2.2))
theorem ok134_0 : RowOk ks134 rs134 (locF false ks134 rs134 (F134 2000)) rw134_0 :=
 (by kernel_rfl : ((encVs ks134 rw134_0.1 (some rw134_0.2.1)).bind (locF false ks134 rs134 (F134 2000))).map (decVs rs134) = some (rw134_0.2.2.1, rw134_0.2.2.2))

end Go.Proofs.YtgipaccfnlklcaaGreat
