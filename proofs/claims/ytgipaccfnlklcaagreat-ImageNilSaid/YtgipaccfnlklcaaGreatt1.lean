/- What was played ahead: tables. -/
import Derived.Test.YtgipaccfnlklcaaGreatr11
set_option linter.unusedVariables false
set_option maxRecDepth 100000
namespace Go.Proofs.YtgipaccfnlklcaaGreat
noncomputable section
open Go.L

def TB33 : List Row := [rw33_0, rw33_1]
theorem gt33 : CalOk Tryz.prog 33 (.full (mkFun ks33 rs33 (locF false ks33 rs33 (tabG ks33 rs33 TB33)))) := tab_goodG (gl33 2000) ⟨ok33_0, ⟨ok33_1, trivial⟩⟩

end
end Go.Proofs.YtgipaccfnlklcaaGreat
