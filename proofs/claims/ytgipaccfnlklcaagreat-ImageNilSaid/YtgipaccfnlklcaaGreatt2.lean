/- What was played ahead: tables. -/
import Derived.Test.YtgipaccfnlklcaaGreatr21
import Derived.Test.YtgipaccfnlklcaaGreatr22
set_option linter.unusedVariables false
set_option maxRecDepth 100000
namespace Go.Proofs.YtgipaccfnlklcaaGreat
noncomputable section
open Go.L

def TB6 : List Row := [rw6_0]
theorem gt6 : CalOk Tryz.prog 6 (.full (tabF rs6 TB6)) := tab_good (gl6 2000) ⟨ok6_0, trivial⟩
def TB29 : List Row := [rw29_0]
theorem gt29 : CalOk Tryz.prog 29 (.full (tabF rs29 TB29)) := tab_good (gl29 2000) ⟨ok29_0, trivial⟩

end
end Go.Proofs.YtgipaccfnlklcaaGreat
