/- What was played ahead: it was so. -/
import Derived.Test.YtkhnngghmlpbeaaGreatr20
import Derived.KernelRfl
set_option linter.unusedVariables false
set_option maxRecDepth 100000
namespace Go.Proofs.YtkhnngghmlpbeaaGreat
open Go.L

theorem ok74_6 : RowOk ks74 rs74 (locF false ks74 rs74 (allF (e74 2000) 2000 Tryz.f74 ks74 rs74)) rw74_6 :=
 (by kernel_rfl : ((encVs ks74 rw74_6.1 (some rw74_6.2.1)).bind (locF false ks74 rs74 (allF (e74 2000) 2000 Tryz.f74 ks74 rs74))).map (decVs rs74) = some (rw74_6.2.2.1, rw74_6.2.2.2))
theorem ok74_7 : RowOk ks74 rs74 (locF false ks74 rs74 (allF (e74 2000) 2000 Tryz.f74 ks74 rs74)) rw74_7 :=
 (by kernel_rfl : ((encVs ks74 rw74_7.1 (some rw74_7.2.1)).bind (locF false ks74 rs74 (allF (e74 2000) 2000 Tryz.f74 ks74 rs74))).map (decVs rs74) = some (rw74_7.2.2.1, rw74_7.2.2.2))

end Go.Proofs.YtkhnngghmlpbeaaGreat
