/- What was played ahead: tables. -/
import Derived.Test.YtgipaccfnlklcaaGreatDoorr11
import Derived.Test.YtgipaccfnlklcaaGreatDoorr12
set_option linter.unusedVariables false
set_option maxRecDepth 100000
namespace Go.Proofs.YtgipaccfnlklcaaGreatDoor
noncomputable section
open Go.L

def TB7 : List Row := [rw7_0]
theorem gt7 : CalOk Tryz.prog 7 (.full (tabF rs7 TB7)) := tab_good (gl7 2000) ⟨ok7_0, trivial⟩
def TB19 : List Row := [rw19_0]
theorem gt19 : CalOk Tryz.prog 19 (.full (mkFun ks19 rs19 (locF false ks19 rs19 (tabG ks19 rs19 TB19)))) := tab_goodG (gl19 2000) ⟨ok19_0, trivial⟩

end
end Go.Proofs.YtgipaccfnlklcaaGreatDoor
