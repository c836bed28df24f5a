/- What was played ahead: it was so. -/
import Derived.Test.YtkhnngghmlpbeaaGreatr10
import Derived.KernelRfl
set_option linter.unusedVariables false
set_option maxRecDepth 100000
namespace Go.Proofs.YtkhnngghmlpbeaaGreat
open Go.L

theorem ok209_0 : RowOk ks209 rs209 (locF false ks209 rs209 (F209 2000)) rw209_0 :=
 (by kernel_rfl : ((encVs ks209 rw209_0.1 (some rw209_0.2.1)).bind (locF false ks209 rs209 (F209 2000))).map (decVs rs209) = some (rw209_0.2.2.1, rw209_0.2.2.2))
theorem ok209_1 : RowOk ks209 rs209 (locF false ks209 rs209 (F209 2000)) rw209_1 :=
 (by kernel_rfl : ((encVs ks209 rw209_1.1 (some rw209_1.2.1)).bind (locF false ks209 rs209 (F209 2000))).map (decVs rs209) = some (rw209_1.2.2.1, rw209_1.2.2.2))

end Go.Proofs.YtkhnngghmlpbeaaGreat
