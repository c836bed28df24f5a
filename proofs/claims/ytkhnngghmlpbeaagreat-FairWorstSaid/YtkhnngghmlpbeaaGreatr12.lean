/- What was played ahead: it was so. -/
import Derived.Test.YtkhnngghmlpbeaaGreatr10
import Derived.KernelRfl
set_option linter.unusedVariables false
set_option maxRecDepth 100000
namespace Go.Proofs.YtkhnngghmlpbeaaGreat
open Go.L

theorem ok39_2 : RowOk ks39 rs39 (locF false ks39 rs39 (F39 2000)) rw39_2 :=
 (by kernel_rfl : ((encVs ks39 rw39_2.1 (some rw39_2.2.1)).bind (locF false ks39 rs39 (F39 2000))).map (decVs rs39) = some (rw39_2.2.2.1, rw39_2.2.2.2))
theorem ok39_3 : RowOk ks39 rs39 (locF false ks39 rs39 (F39 2000)) rw39_3 :=
 (by kernel_rfl : ((encVs ks39 rw39_3.1 (some rw39_3.2.1)).bind (locF false ks39 rs39 (F39 2000))).map (decVs rs39) = some (rw39_3.2.2.1, rw39_3.2.2.2))

end Go.Proofs.YtkhnngghmlpbeaaGreat
