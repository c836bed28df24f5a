/- What was played ahead: tables. -/
import Derived.Test.YtgipaccfnlklcaaGreatDoorr21
import Derived.Test.YtgipaccfnlklcaaGreatDoorr22
set_option linter.unusedVariables false
set_option maxRecDepth 100000
namespace Go.Proofs.YtgipaccfnlklcaaGreatDoor
noncomputable section
open Go.L

def TB8 : List Row := [rw8_0]
theorem gt8 : CalOk Tryz.prog 8 (.full (tabF rs8 TB8)) := tab_good (gl8 2000) ⟨ok8_0, trivial⟩
def TB9 : List Row := [rw9_0]
theorem gt9 : CalOk Tryz.prog 9 (.full (tabF rs9 TB9)) := tab_good (gl9 2000) ⟨ok9_0, trivial⟩

end
end Go.Proofs.YtgipaccfnlklcaaGreatDoor
