/- What was played ahead: tables. -/
import Derived.Test.YtkhnngghmlpbeaaGreatr21
import Derived.Test.YtkhnngghmlpbeaaGreatr22
import Derived.Test.YtkhnngghmlpbeaaGreatr23
import Derived.Test.YtkhnngghmlpbeaaGreatr24
set_option linter.unusedVariables false
set_option maxRecDepth 100000
namespace Go.Proofs.YtkhnngghmlpbeaaGreat
noncomputable section
open Go.L

def TB74 : List Row := [rw74_0, rw74_1, rw74_2, rw74_3, rw74_4, rw74_5, rw74_6, rw74_7]
theorem gt74 : CalOk Tryz.prog 74 (.full (tabF rs74 TB74)) := tab_good (gl74 2000) ⟨ok74_0, ⟨ok74_1, ⟨ok74_2, ⟨ok74_3, ⟨ok74_4, ⟨ok74_5, ⟨ok74_6, ⟨ok74_7, trivial⟩⟩⟩⟩⟩⟩⟩⟩

end
end Go.Proofs.YtkhnngghmlpbeaaGreat
