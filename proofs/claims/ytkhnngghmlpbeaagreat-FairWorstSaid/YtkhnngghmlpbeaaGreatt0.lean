/- What was played ahead: tables. -/
import Derived.Test.YtkhnngghmlpbeaaGreatr01
import Derived.Test.YtkhnngghmlpbeaaGreatr02
set_option linter.unusedVariables false
set_option maxRecDepth 100000
namespace Go.Proofs.YtkhnngghmlpbeaaGreat
noncomputable section
open Go.L

def TB5 : List Row := [rw5_0]
theorem gt5 : CalOk Tryz.prog 5 (.full (mkFun ks5 rs5 (locF false ks5 rs5 (tabG ks5 rs5 TB5)))) := tab_goodG (gl5 2000) ⟨ok5_0, trivial⟩
def TB314 : List Row := [rw314_0]
theorem gt314 : CalOk Tryz.prog 314 (.full (mkFun ks314 rs314 (locF false ks314 rs314 (tabG ks314 rs314 TB314)))) := tab_goodG (gl314 2000) ⟨ok314_0, trivial⟩
def TB296 : List Row := [rw296_0]
theorem gt296 : CalOk Tryz.prog 296 (.full (mkFun ks296 rs296 (locF false ks296 rs296 (tabG ks296 rs296 TB296)))) := tab_goodG (gl296 2000) ⟨ok296_0, trivial⟩
def TB287 : List Row := [rw287_0, rw287_1, rw287_2, rw287_3]
theorem gt287 : CalOk Tryz.prog 287 (.full (mkFun ks287 rs287 (locF false ks287 rs287 (tabG ks287 rs287 TB287)))) := tab_goodG (gl287 2000) ⟨ok287_0, ⟨ok287_1, ⟨ok287_2, ⟨ok287_3, trivial⟩⟩⟩⟩
def TB36 : List Row := [rw36_0]
theorem gt36 : CalOk Tryz.prog 36 (.full (tabF rs36 TB36)) := tab_good (gl36 2000) ⟨ok36_0, trivial⟩
def TB37 : List Row := [rw37_0]
theorem gt37 : CalOk Tryz.prog 37 (.full (tabF rs37 TB37)) := tab_good (gl37 2000) ⟨ok37_0, trivial⟩
def TB38 : List Row := [rw38_0, rw38_1, rw38_2]
theorem gt38 : CalOk Tryz.prog 38 (.full (tabF rs38 TB38)) := tab_good (gl38 2000) ⟨ok38_0, ⟨ok38_1, ⟨ok38_2, trivial⟩⟩⟩
def TB73 : List Row := [rw73_0]
theorem gt73 : CalOk Tryz.prog 73 (.full (tabF rs73 TB73)) := tab_good (gl73 2000) ⟨ok73_0, trivial⟩
def TB219 : List Row := [rw219_0, rw219_1, rw219_2, rw219_3]
theorem gt219 : CalOk Tryz.prog 219 (.full (mkFun ks219 rs219 (locF false ks219 rs219 (tabG ks219 rs219 TB219)))) := tab_goodG (gl219 2000) ⟨ok219_0, ⟨ok219_1, ⟨ok219_2, ⟨ok219_3, trivial⟩⟩⟩⟩
def TB205 : List Row := [rw205_0]
theorem gt205 : CalOk Tryz.prog 205 (.full (tabF rs205 TB205)) := tab_good (gl205 2000) ⟨ok205_0, trivial⟩
def TB206 : List Row := [rw206_0, rw206_1, rw206_2]
theorem gt206 : CalOk Tryz.prog 206 (.full (tabF rs206 TB206)) := tab_good (gl206 2000) ⟨ok206_0, ⟨ok206_1, ⟨ok206_2, trivial⟩⟩⟩

end
end Go.Proofs.YtkhnngghmlpbeaaGreat
