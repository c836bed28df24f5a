/- What was played ahead: objects and rows. -/
import Derived.Test.YtgipaccfnlklcaaGreatDoorj1
set_option linter.unusedVariables false
set_option maxRecDepth 100000
namespace Go.Proofs.YtgipaccfnlklcaaGreatDoor
noncomputable section
open Go.L

def rw8_0 : Row := ([.ptr 1 0 0],
 [o1, o60, o1, o3, o4, o5, o61, o7, o5, o5, o8, o9, o1, o10, o50, o10, o11, o12, o1, o10, o62, o10, o11, o63, o64, o14, o15, o17, o18, o14, o65, o20, o21, o14, o28, o29, o5, o54, o31, o32, o33, o34, o66, o44, o45, o5, o46, o47, o33, o34, o56, o57, o5, o58, o59, o33, o34, o67, o68, o5, o69, o70, o71, o33, o34, o125],
 [.cplx .f64 4613937818241073152 4607182418800017408],
 [o1, o60, o1, o3, o4, o5, o61, o7, o5, o5, o8, o9, o1, o10, o50, o10, o11, o12, o1, o10, o62, o10, o11, o63, o64, o14, o15, o17, o18, o14, o65, o20, o21, o14, o28, o29, o5, o54, o31, o32, o33, o34, o66, o44, o45, o5, o46, o47, o33, o34, o56, o57, o5, o58, o59, o33, o34, o67, o68, o5, o69, o70, o71, o33, o34, o125])
def rw9_0 : Row := ([.ptr 1 0 0],
 [o1, o60, o1, o3, o4, o5, o61, o7, o5, o5, o8, o9, o1, o10, o50, o10, o11, o12, o1, o10, o62, o10, o11, o63, o64, o14, o15, o17, o18, o14, o65, o20, o21, o14, o28, o29, o5, o54, o31, o32, o33, o34, o66, o44, o45, o5, o46, o47, o33, o34, o56, o57, o5, o58, o59, o33, o34, o67, o68, o5, o69, o70, o71, o33, o34, o125],
 [J 0],
 [o1, o60, o1, o3, o4, o5, o61, o7, o5, o5, o8, o9, o1, o10, o50, o10, o11, o12, o1, o10, o62, o10, o11, o63, o64, o14, o15, o17, o18, o14, o65, o20, o21, o14, o28, o29, o5, o54, o31, o32, o33, o34, o66, o44, o45, o5, o46, o47, o33, o34, o56, o57, o5, o58, o59, o33, o34, o67, o68, o5, o69, o70, o71, o33, o34, o125])

end
end Go.Proofs.YtgipaccfnlklcaaGreatDoor
