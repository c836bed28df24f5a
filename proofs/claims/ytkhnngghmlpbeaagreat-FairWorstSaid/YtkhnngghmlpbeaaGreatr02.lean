/- What was played ahead: it was so. -/
import Derived.Test.YtkhnngghmlpbeaaGreatr00
import Derived.KernelRfl
set_option linter.unusedVariables false
set_option maxRecDepth 100000
namespace Go.Proofs.YtkhnngghmlpbeaaGreat
open Go.L

theorem ok38_2 : RowOk ks38 rs38 (locF false ks38 rs38 (F38 2000)) rw38_2 :=
 (by kernel_rfl : ((encVs ks38 rw38_2.1 (some rw38_2.2.1)).bind (locF false ks38 rs38 (F38 2000))).map (decVs rs38) = some (rw38_2.2.2.1, rw38_2.2.2.2))
theorem ok73_0 : RowOk ks73 rs73 (locF false ks73 rs73 (F73 2000)) rw73_0 :=
 (by kernel_rfl : ((encVs ks73 rw73_0.1 (some rw73_0.2.1)).bind (locF false ks73 rs73 (F73 2000))).map (decVs rs73) = some (rw73_0.2.2.1, rw73_0.2.2.2))
theorem ok219_0 : RowOk ks219 rs219 (locF false ks219 rs219 (F219 2000)) rw219_0 :=
 (by kernel_rfl : ((encVs ks219 rw219_0.1 (some rw219_0.2.1)).bind (locF false ks219 rs219 (F219 2000))).map (decVs rs219) = some (rw219_0.2.2.1, rw219_0.2.2.2))
theorem ok219_1 : RowOk ks219 rs219 (locF false ks219 rs219 (F219 2000)) rw219_1 :=
 (by kernel_rfl : ((encVs ks219 rw219_1.1 (some rw219_1.2.1)).bind (locF false ks219 rs219 (F219 2000))).map (decVs rs219) = some (rw219_1.2.2.1, rw219_1.2.2.2))
theorem ok219_2 : RowOk ks219 rs219 (locF false ks219 rs219 (F219 2000)) rw219_2 :=
 (by kernel_rfl : ((encVs ks219 rw219_2.1 (some rw219_2.2.1)).bind (locF false ks219 rs219 (F219 2000))).map (decVs rs219) = some (rw219_2.2.2.1, rw219_2.2.2.2))
theorem ok219_3 : RowOk ks219 rs219 (locF false ks219 rs219 (F219 2000)) rw219_3 :=
 (by kernel_rfl : ((encVs ks219 rw219_3.1 (some rw219_3.2.1)).bind (locF false ks219 rs219 (F219 2000))).map (decVs rs219) = some (rw219_3.2.2.1, rw219_3.2.2.2))
theorem ok205_0 : RowOk ks205 rs205 (locF false ks205 rs205 (F205 2000)) rw205_0 :=
 (by kernel_rfl : ((encVs ks205 rw205_0.1 (some rw205_0.2.1)).bind (locF false ks205 rs205 (F205 2000))).map (decVs rs205) = some (rw205_0.2.2.1, rw205_0.2.2.2))
theorem ok206_0 : RowOk ks206 rs206 (locF false ks206 rs206 (F206 2000)) rw206_0 :=
 (by kernel_rfl : ((encVs ks206 rw206_0.1 (some rw206_0.2.1)).bind (locF false ks206 rs206 (F206 2000))).map (decVs rs206) = some (rw206_0.2.2.1, rw206_0.2.2.2))
theorem ok206_1 : RowOk ks206 rs206 (locF false ks206 rs206 (F206 2000)) rw206_1 :=
 (by kernel_rfl : ((encVs ks206 rw206_1.1 (some rw206_1.2.1)).bind (locF false ks206 rs206 (F206 2000))).map (decVs rs206) = some (rw206_1.2.2.1, rw206_1.2.2.2))
theorem ok206_2 : RowOk ks206 rs206 (locF false ks206 rs206 (F206 2000)) rw206_2 :=
 (by kernel_rfl : ((encVs ks206 rw206_2.1 (some rw206_2.2.1)).bind (locF false ks206 rs206 (F206 2000))).map (decVs rs206) = some (rw206_2.2.2.1, rw206_2.2.2.2))

end Go.Proofs.YtkhnngghmlpbeaaGreat
