/- What was played ahead: tables. -/
import Derived.Test.YtgipaccfnlklcaaGreatr31
set_option linter.unusedVariables false
set_option maxRecDepth 100000
namespace Go.Proofs.YtgipaccfnlklcaaGreat
noncomputable section
open Go.L

def TB7 : List Row := [rw7_0]
theorem gt7 : CalOk Tryz.prog 7 (.full (tabF rs7 TB7)) := tab_good (gl7 2000) ⟨ok7_0, trivial⟩

end
end Go.Proofs.YtgipaccfnlklcaaGreat
