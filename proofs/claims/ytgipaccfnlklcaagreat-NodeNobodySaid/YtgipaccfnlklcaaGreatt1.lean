/- What was played ahead: tables. -/
import Derived.Test.YtgipaccfnlklcaaGreatr11
set_option linter.unusedVariables false
set_option maxRecDepth 100000
namespace Go.Proofs.YtgipaccfnlklcaaGreat
noncomputable section
open Go.L

def TB12 : List Row := [rw12_0]
theorem gt12 : CalOk Tryz.prog 12 (.full (tabF rs12 TB12)) := tab_good (gl12 2000) ⟨ok12_0, trivial⟩

end
end Go.Proofs.YtgipaccfnlklcaaGreat
