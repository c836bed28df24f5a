/- What was played ahead: it was so. -/
import Derived.Test.YtkhnngghmlpbeaaGreatr10
import Derived.KernelRfl
set_option linter.unusedVariables false
set_option maxRecDepth 100000
namespace Go.Proofs.YtkhnngghmlpbeaaGreat
open Go.L

theorem ok209_2 : RowOk ks209 rs209 (locF false ks209 rs209 (F209 2000)) rw209_2 :=
 (by kernel_rfl : ((encVs ks209 rw209_2.1 (some rw209_2.2.1)).bind (locF false ks209 rs209 (F209 2000))).map (decVs rs209) = some (rw209_2.2.2.1, rw209_2.2.2.2))
theorem ok209_3 : RowOk ks209 rs209 (locF false ks209 rs209 (F209 2000)) rw209_3 :=
 (by kernel_rfl : ((encVs ks209 rw209_3.1 (some rw209_3.2.1)).bind (locF false ks209 rs209 (F209 2000))).map (decVs rs209) = some (rw209_3.2.2.1, rw209_3.2.2.2))

end Go.Proofs.YtkhnngghmlpbeaaGreat
