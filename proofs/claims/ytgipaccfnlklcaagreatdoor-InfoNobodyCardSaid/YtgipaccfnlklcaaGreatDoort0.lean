/- What was played ahead: tables. -/
import Derived.Test.YtgipaccfnlklcaaGreatDoorr01
import Derived.Test.YtgipaccfnlklcaaGreatDoorr02
import Derived.Test.YtgipaccfnlklcaaGreatDoorr03
import Derived.Test.YtgipaccfnlklcaaGreatDoorr04
set_option linter.unusedVariables false
set_option maxRecDepth 100000
namespace Go.Proofs.YtgipaccfnlklcaaGreatDoor
noncomputable section
open Go.L

def TB20 : List Row := [rw20_0, rw20_1]
theorem gt20 : CalOk Tryz.prog 20 (.full (tabF rs20 TB20)) := tab_good (gl20 2000) ⟨ok20_0, ⟨ok20_1, trivial⟩⟩
def TB21 : List Row := [rw21_0]
theorem gt21 : CalOk Tryz.prog 21 (.full (tabF rs21 TB21)) := tab_good (gl21 2000) ⟨ok21_0, trivial⟩
def TB22 : List Row := [rw22_0, rw22_1, rw22_2, rw22_3]
theorem gt22 : CalOk Tryz.prog 22 (.full (tabF rs22 TB22)) := tab_good (gl22 2000) ⟨ok22_0, ⟨ok22_1, ⟨ok22_2, ⟨ok22_3, trivial⟩⟩⟩⟩
def TB5 : List Row := [rw5_0]
theorem gt5 : CalOk Tryz.prog 5 (.full (tabF rs5 TB5)) := tab_good (gl5 2000) ⟨ok5_0, trivial⟩
def TB18 : List Row := [rw18_0, rw18_1, rw18_2]
theorem gt18 : CalOk Tryz.prog 18 (.full (mkFun ks18 rs18 (locF false ks18 rs18 (tabG ks18 rs18 TB18)))) := tab_goodG (gl18 2000) ⟨ok18_0, ⟨ok18_1, ⟨ok18_2, trivial⟩⟩⟩

end
end Go.Proofs.YtgipaccfnlklcaaGreatDoor
