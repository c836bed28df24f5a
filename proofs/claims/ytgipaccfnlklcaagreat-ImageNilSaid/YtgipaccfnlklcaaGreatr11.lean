/- What was played ahead: it was so. -/
import Derived.Test.YtgipaccfnlklcaaGreatr10
import Derived.KernelRfl
set_option linter.unusedVariables false
set_option maxRecDepth 100000
namespace Go.Proofs.YtgipaccfnlklcaaGreat
open Go.L

theorem ok33_0 : RowOk ks33 rs33 (locF false ks33 rs33 (F33 2000)) rw33_0 :=
 (by kernel_rfl : ((encVs ks33 rw33_0.1 (some rw33_0.2.1)).bind (locF false ks33 rs33 (F33 2000))).map (decVs rs33) = some (rw33_0.2.2.1, rw33_0.2.2.2))
theorem ok33_1 : RowOk ks33 rs33 (locF false ks33 rs33 (F33 2000)) rw33_1 :=
 (by kernel_rfl : ((encVs ks33 rw33_1.1 (some rw33_1.2.1)).bind (locF false ks33 rs33 (F33 2000))).map (decVs rs33) = some (rw33_1.2.2.1, rw33_1.2.2.2))

end Go.Proofs.YtgipaccfnlklcaaGreat
