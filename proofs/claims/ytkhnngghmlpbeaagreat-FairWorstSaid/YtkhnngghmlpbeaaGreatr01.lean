/- What was played ahead: it was so. -/
import Derived.Test.YtkhnngghmlpbeaaGreatr00
import Derived.KernelRfl
set_option linter.unusedVariables false
set_option maxRecDepth 100000
namespace Go.Proofs.YtkhnngghmlpbeaaGreat
open Go.L

theorem ok5_0 : RowOk ks5 rs5 (locF false ks5 rs5 (F5 2000)) rw5_0 :=
 (by kernel_rfl : ((encVs ks5 rw5_0.1 (some rw5_0.2.1)).bind (locF false ks5 rs5 (F5 2000))).map (decVs rs5) = some (rw5_0.2.2.1, rw5_0.2.2.2))
theorem ok314_0 : RowOk ks314 rs314 (locF false ks314 rs314 (F314 2000)) rw314_0 :=
 (by kernel_rfl : ((encVs ks314 rw314_0.1 (some rw314_0.2.1)).bind (locF false ks314 rs314 (F314 2000))).map (decVs rs314) = some (rw314_0.2.2.1, rw314_0.2.2.2))
theorem ok296_0 : RowOk ks296 rs296 (locF false ks296 rs296 (F296 2000)) rw296_0 :=
 (by kernel_rfl : ((encVs ks296 rw296_0.1 (some rw296_0.2.1)).bind (locF false ks296 rs296 (F296 2000))).map (decVs rs296) = some (rw296_0.2.2.1, rw296_0.2.2.2))
theorem ok287_0 : RowOk ks287 rs287 (locF false ks287 rs287 (F287 2000)) rw287_0 :=
 (by kernel_rfl : ((encVs ks287 rw287_0.1 (some rw287_0.2.1)).bind (locF false ks287 rs287 (F287 2000))).map (decVs rs287) = some (rw287_0.2.2.1, rw287_0.2.2.2))
theorem ok287_1 : RowOk ks287 rs287 (locF false ks287 rs287 (F287 2000)) rw287_1 :=
 (by kernel_rfl : ((encVs ks287 rw287_1.1 (some rw287_1.2.1)).bind (locF false ks287 rs287 (F287 2000))).map (decVs rs287) = some (rw287_1.2.2.1, rw287_1.2.2.2))
theorem ok287_2 : RowOk ks287 rs287 (locF false ks287 rs287 (F287 2000)) rw287_2 :=
 (by kernel_rfl : ((encVs ks287 rw287_2.1 (some rw287_2.2.1)).bind (locF false ks287 rs287 (F287 2000))).map (decVs rs287) = some (rw287_2.2.2.1, rw287_2.2.2.2))
theorem ok287_3 : RowOk ks287 rs287 (locF false ks287 rs287 (F287 2000)) rw287_3 :=
 (by kernel_rfl : ((encVs ks287 rw287_3.1 (some rw287_3.2.1)).bind (locF false ks287 rs287 (F287 2000))).map (decVs rs287) = some (rw287_3.2.2.1, rw287_3.2.2.2))
theorem ok36_0 : RowOk ks36 rs36 (locF false ks36 rs36 (F36 2000)) rw36_0 :=
 (by kernel_rfl : ((encVs ks36 rw36_0.1 (some rw36_0.2.1)).bind (locF false ks36 rs36 (F36 2000))).map (decVs rs36) = some (rw36_0.2.2.1, rw36_0.2.2.2))
theorem ok37_0 : RowOk ks37 rs37 (locF false ks37 rs37 (F37 2000)) rw37_0 :=
 (by kernel_rfl : ((encVs ks37 rw37_0.1 (some rw37_0.2.1)).bind (locF false ks37 rs37 (F37 2000))).map (decVs rs37) = some (rw37_0.2.2.1, rw37_0.2.2.2))
theorem ok38_0 : RowOk ks38 rs38 (locF false ks38 rs38 (F38 2000)) rw38_0 :=
 (by kernel_rfl : ((encVs ks38 rw38_0.1 (some rw38_0.2.1)).bind (locF false ks38 rs38 (F38 2000))).map (decVs rs38) = some (rw38_0.2.2.1, rw38_0.2.2.2))
theorem ok38_1 : RowOk ks38 rs38 (locF false ks38 rs38 (F38 2000)) rw38_1 :=
 (by kernel_rfl : ((encVs ks38 rw38_1.1 (some rw38_1.2.1)).bind (locF false ks38 rs38 (F38 2000))).map (decVs rs38) = some (rw38_1.2.2.1, rw38_1.2.2.2))

end Go.Proofs.YtkhnngghmlpbeaaGreat
