/- What was played ahead: it was so. -/
import Derived.Test.YtkhnngghmlpbeaaGreatr10
import Derived.KernelRfl
set_option linter.unusedVariables false
set_option maxRecDepth 100000
namespace Go.Proofs.YtkhnngghmlpbeaaGreat
open Go.L

theorem ok39_0 : RowOk ks39 rs39 (locF false ks39 rs39 (F39 2000)) rw39_0 :=
 (by kernel_rfl : ((encVs ks39 rw39_0.1 (some rw39_0.2.1)).bind (locF false ks39 rs39 (F39 2000))).map (decVs rs39) = some (rw39_0.2.2.1, rw39_0.2.2.2))
theorem ok39_1 : RowOk ks39 rs39 (locF false ks39 rs39 (F39 2000)) rw39_1 :=
 (by kernel_rfl : ((encVs ks39 rw39_1.1 (some rw39_1.2.1)).bind (locF false ks39 rs39 (F39 2000))).map (decVs rs39) = some (rw39_1.2.2.1, rw39_1.2.2.2))

end Go.Proofs.YtkhnngghmlpbeaaGreat
