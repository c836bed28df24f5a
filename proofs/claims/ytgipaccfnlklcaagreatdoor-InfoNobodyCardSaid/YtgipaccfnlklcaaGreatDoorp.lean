/- The closed run, and what is told of a node that nobody made. -/
import Derived.Test.YtgipaccfnlklcaaGreatDoork1
set_option linter.unusedVariables false
set_option maxRecDepth 100000
namespace Go.Proofs.YtgipaccfnlklcaaGreatDoor
open Go.L

theorem awakeI : (F10 2000 []).map (·.1) = some true := by kernel_rfl

theorem bothI (a b k : Int) : (F3 100 (a, b, k, [])).map (·.1) = some true := by kernel_rfl

end Go.Proofs.YtgipaccfnlklcaaGreatDoor
