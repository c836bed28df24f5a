/- What was played ahead: tables. -/
import Derived.Test.YtgipaccfnlklcaaGreatr01
import Derived.Test.YtgipaccfnlklcaaGreatr02
import Derived.Test.YtgipaccfnlklcaaGreatr03
set_option linter.unusedVariables false
set_option maxRecDepth 100000
namespace Go.Proofs.YtgipaccfnlklcaaGreat
noncomputable section
open Go.L

def TB34 : List Row := [rw34_0, rw34_1, rw34_2, rw34_3]
theorem gt34 : CalOk Tryz.prog 34 (.full (tabF rs34 TB34)) := tab_good (gl34 2000) ⟨ok34_0, ⟨ok34_1, ⟨ok34_2, ⟨ok34_3, trivial⟩⟩⟩⟩
def TB14 : List Row := [rw14_0]
theorem gt14 : CalOk Tryz.prog 14 (.full (tabF rs14 TB14)) := tab_good (gl14 2000) ⟨ok14_0, trivial⟩
def TB72 : List Row := [rw72_0, rw72_1]
theorem gt72 : CalOk Tryz.prog 72 (.full (tabF rs72 TB72)) := tab_good (gl72 2000) ⟨ok72_0, ⟨ok72_1, trivial⟩⟩

end
end Go.Proofs.YtgipaccfnlklcaaGreat
