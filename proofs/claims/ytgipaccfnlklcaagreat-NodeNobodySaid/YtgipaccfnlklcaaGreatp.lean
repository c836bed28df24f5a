/- The closed run, and the calls of a node that nobody made. -/
import Derived.Test.YtgipaccfnlklcaaGreati1
set_option linter.unusedVariables false
set_option maxRecDepth 100000
namespace Go.Proofs.YtgipaccfnlklcaaGreat
open Go.L

theorem awakeN : (F28 2000 []).map (·.1) = some true := by kernel_rfl

theorem bothN (a b k : Int) : (F4 100 (a, b, k, [])).map (·.1) = some true := by kernel_rfl

end Go.Proofs.YtgipaccfnlklcaaGreat
