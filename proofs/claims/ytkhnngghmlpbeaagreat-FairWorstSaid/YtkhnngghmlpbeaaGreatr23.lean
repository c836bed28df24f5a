/- What was played ahead: it was so. -/
import Derived.Test.YtkhnngghmlpbeaaGreatr20
import Derived.KernelRfl
set_option linter.unusedVariables false
set_option maxRecDepth 100000
namespace Go.Proofs.YtkhnngghmlpbeaaGreat
open Go.L

theorem ok74_4 : RowOk ks74 rs74 (locF false ks74 rs74 (allF (e74 2000) 2000 Tryz.f74 ks74 rs74)) rw74_4 :=
 (by kernel_rfl : ((encVs ks74 rw74_4.1 (some rw74_4.2.1)).bind (locF false ks74 rs74 (allF (e74 2000) 2000 Tryz.f74 ks74 rs74))).map (decVs rs74) = some (rw74_4.2.2.1, rw74_4.2.2.2))
theorem ok74_5 : RowOk ks74 rs74 (locF false ks74 rs74 (allF (e74 2000) 2000 Tryz.f74 ks74 rs74)) rw74_5 :=
 (by kernel_rfl : ((encVs ks74 rw74_5.1 (some rw74_5.2.1)).bind (locF false ks74 rs74 (allF (e74 2000) 2000 Tryz.f74 ks74 rs74))).map (decVs rs74) = some (rw74_5.2.2.1, rw74_5.2.2.2))

end Go.Proofs.YtkhnngghmlpbeaaGreat
