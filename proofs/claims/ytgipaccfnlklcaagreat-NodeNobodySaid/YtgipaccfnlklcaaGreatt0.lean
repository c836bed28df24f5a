/- What was played ahead: tables. -/
import Derived.Test.YtgipaccfnlklcaaGreatr01
import Derived.Test.YtgipaccfnlklcaaGreatr02
import Derived.Test.YtgipaccfnlklcaaGreatr03
import Derived.Test.YtgipaccfnlklcaaGreatr04
set_option linter.unusedVariables false
set_option maxRecDepth 100000
namespace Go.Proofs.YtgipaccfnlklcaaGreat
noncomputable section
open Go.L

def TB34 : List Row := [rw34_0]
theorem gt34 : CalOk Tryz.prog 34 (.full (tabF rs34 TB34)) := tab_good (gl34 2000) ⟨ok34_0, trivial⟩
def TB9 : List Row := [rw9_0]
theorem gt9 : CalOk Tryz.prog 9 (.full (tabF rs9 TB9)) := tab_good (gl9 2000) ⟨ok9_0, trivial⟩
def TB11 : List Row := [rw11_0, rw11_1, rw11_2, rw11_3, rw11_4]
theorem gt11 : CalOk Tryz.prog 11 (.full (tabF rs11 TB11)) := tab_good (gl11 2000) ⟨ok11_0, ⟨ok11_1, ⟨ok11_2, ⟨ok11_3, ⟨ok11_4, trivial⟩⟩⟩⟩⟩
def TB342 : List Row := [rw342_0]
theorem gt342 : CalOk Tryz.prog 342 (.full (mkFun ks342 rs342 (locF false ks342 rs342 (tabG ks342 rs342 TB342)))) := tab_goodG (gl342 2000) ⟨ok342_0, trivial⟩
def TB134 : List Row := [rw134_0]
theorem gt134 : CalOk Tryz.prog 134 (.full (mkFun ks134 rs134 (locF false ks134 rs134 (tabG ks134 rs134 TB134)))) := tab_goodG (gl134 2000) ⟨ok134_0, trivial⟩

end
end Go.Proofs.YtgipaccfnlklcaaGreat
