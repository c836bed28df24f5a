/- What was played ahead: tables. -/
import Derived.Test.YtkhnngghmlpbeaaGreatr11
import Derived.Test.YtkhnngghmlpbeaaGreatr12
import Derived.Test.YtkhnngghmlpbeaaGreatr13
import Derived.Test.YtkhnngghmlpbeaaGreatr14
set_option linter.unusedVariables false
set_option maxRecDepth 100000
namespace Go.Proofs.YtkhnngghmlpbeaaGreat
noncomputable section
open Go.L

def TB39 : List Row := [rw39_0, rw39_1, rw39_2, rw39_3]
theorem gt39 : CalOk Tryz.prog 39 (.full (tabF rs39 TB39)) := tab_good (gl39 2000) ⟨ok39_0, ⟨ok39_1, ⟨ok39_2, ⟨ok39_3, trivial⟩⟩⟩⟩
def TB209 : List Row := [rw209_0, rw209_1, rw209_2, rw209_3]
theorem gt209 : CalOk Tryz.prog 209 (.full (tabF rs209 TB209)) := tab_good (gl209 2000) ⟨ok209_0, ⟨ok209_1, ⟨ok209_2, ⟨ok209_3, trivial⟩⟩⟩⟩

end
end Go.Proofs.YtkhnngghmlpbeaaGreat
