/- What was played ahead: it was so. -/
import Derived.Test.YtgipaccfnlklcaaGreatDoorr00
import Derived.KernelRfl
set_option linter.unusedVariables false
set_option maxRecDepth 100000
namespace Go.Proofs.YtgipaccfnlklcaaGreatDoor
open Go.L

theorem ok20_0 : RowOk ks20 rs20 (locF false ks20 rs20 (F20 2000)) rw20_0 :=
 (by kernel_rfl : ((encVs ks20 rw20_0.1 (some rw20_0.2.1)).bind (locF false ks20 rs20 (F20 2000))).map (decVs rs20) = some (rw20_0.2.2.1, rw20_0.2.2.2))
theorem ok20_1 : RowOk ks20 rs20 (locF false ks20 rs20 (F20 2000)) rw20_1 :=
 (by kernel_rfl : ((encVs ks20 rw20_1.1 (some rw20_1.2.1)).bind (locF false ks20 rs20 (F20 2000))).map (decVs rs20) = some (rw20_1.2.2.1, rw20_1.2.2.2))
theorem ok21_0 : RowOk ks21 rs21 (locF false ks21 rs21 (F21 2000)) rw21_0 :=
 (by kernel_rfl : ((encVs ks21 rw21_0.1 (some rw21_0.2.1)).bind (locF false ks21 rs21 (F21 2000))).map (decVs rs21) = some (rw21_0.2.2.1, rw21_0.2.2.2))

end Go.Proofs.YtgipaccfnlklcaaGreatDoor
