/- What was played ahead: objects and rows. -/
import Derived.Test.YtgipaccfnlklcaaGreatDoori1
set_option linter.unusedVariables false
set_option maxRecDepth 100000
namespace Go.Proofs.YtgipaccfnlklcaaGreatDoor
noncomputable section
open Go.L

def o125 : O := O.cells 1 ([J 0, J 0, J 3, J 0, J 0, J 3, J 0, J 0, J 0, J 0, J 0, J 1, J 0, J 1, J 0, J 0, J 1, J 0, J 0, J 0, J 0, J 0])
def o126 : O := O.cells 0 ([.sl 22 0 0 3 1 none, .sl 23 0 0 1 2 none, .ptr 26 0 0, .ptr 29 0 0, .ptr 30 0 0, .sl 33 1 0 2 4 none, .map 48, J 0, J 1, .nils, .ptr 65 0 0, .nils, J 0, .nils])
def o127 : O := O.cells 0 ([.str (ByteArray.mk #[109]), .sl 24 0 0 1 4 none])
def o128 : O := O.cells 0 ([.str (ByteArray.mk #[102]), J 0, J 0, .sl 25 0 0 1 11 none])
def o129 : O := O.cells 0 ([.sl 27 0 0 256 3 (some 256), .map 28])
def o130 : O := O.cells 0 ([.map 31, .map 32])
def o131 : O := O.cells 1 ([.ptr 34 0 0, .ptr 40 0 0, J 0, J 0, .ptr 41 0 0, .ptr 47 0 0, J 0, J 0])
def o132 : O := O.cells 0 ([.sl 35 0 0 3 1 none, J 0, .ptr 36 0 0, .ptr 37 0 0, .ptr 39 0 0])
def o133 : O := O.cells 0 ([J 64, .sl 38 0 0 3 3 none])
def o134 : O := O.cells 0 ([.sl 42 0 0 3 1 none, J 0, .ptr 43 0 0, .ptr 44 0 0, .ptr 46 0 0])
def o135 : O := O.cells 0 ([J 64, .sl 45 0 0 1 3 none])
def o136 : O := O.map 4 [0, 1, 2, 3] [(J 0, .ptr 49 0 0), (J 1, .ptr 53 0 0), (J 2, .ptr 57 0 0), (J 3, .ptr 61 0 0)]
def o137 : O := O.cells 0 ([J 0, J 1, J 1, J 0, J 0, .ptr 50 0 0, .ptr 52 0 0, J 1, .bool false, .bool false, J 0, J (-1)])
def o138 : O := O.cells 0 ([.bool true, .sl 51 0 0 1 4 none, .nils])
def o139 : O := O.cells 0 ([J 1, J 1, J 1, J 0, J 0, .ptr 54 0 0, .ptr 56 0 0, J 1, .bool false, .bool false, J 0, J (-1)])
def o140 : O := O.cells 0 ([J 2, J 1, J 1, J 0, J 0, .ptr 58 0 0, .ptr 60 0 0, J 1, .bool false, .bool false, J 0, J (-1)])
def o141 : O := O.cells 0 ([.bool true, .sl 59 0 0 1 4 none, .nils])
def rw7_0 : Row := ([.ptr 1 0 0],
 [o1, o60, o1, o3, o4, o5, o61, o7, o5, o5, o8, o9, o1, o10, o50, o10, o11, o12, o1, o10, o62, o10, o11, o63, o64, o14, o15, o17, o18, o14, o65, o20, o21, o14, o28, o29, o5, o54, o31, o32, o33, o34, o66, o44, o45, o5, o46, o47, o33, o34, o56, o57, o5, o58, o59, o33, o34, o67, o68, o5, o69, o70, o71, o33, o34],
 [.sl 65 1 0 2 11 none],
 [o1, o60, o1, o3, o4, o5, o61, o7, o5, o5, o8, o9, o1, o10, o50, o10, o11, o12, o1, o10, o62, o10, o11, o63, o64, o14, o15, o17, o18, o14, o65, o20, o21, o14, o28, o29, o5, o54, o31, o32, o33, o34, o66, o44, o45, o5, o46, o47, o33, o34, o56, o57, o5, o58, o59, o33, o34, o67, o68, o5, o69, o70, o71, o33, o34, o125])
def rw19_0 : Row := ([.agg [.sl 0 0 0 3 1 none, .sl 1 0 0 1 2 none, .sl 4 3 0 4 19 none, .sl 9 255 0 256 1 none, .sl 10 1 0 2 3 none, .sl 17 1 0 2 1 none, .sl 18 1 0 2 1 none, .sl 19 1 0 2 1 none, .sl 20 1 0 2 1 none, .nils, J 0, J 1, .nils]],
 [o1, o104, o105, o14, o106, o33, o33, o33, o33, o98, o107, o100, o101, o100, o100, o69, o100, o102, o102, o102, o103],
 [.ptr 21 0 0, J 0],
 [o1, o104, o105, o14, o106, o33, o33, o33, o33, o98, o107, o100, o101, o100, o100, o69, o100, o102, o102, o102, o103, o126, o1, o127, o128, o14, o129, o68, o5, o61, o130, o5, o5, o131, o132, o1, o10, o133, o101, o10, o11, o134, o1, o10, o135, o69, o10, o11, o136, o137, o138, o33, o34, o139, o59, o33, o34, o140, o141, o33, o34, o70, o71, o33, o34, o13])

end
end Go.Proofs.YtgipaccfnlklcaaGreatDoor
