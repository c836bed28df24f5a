/- What was played ahead: objects and rows. -/
import Derived.Test.YtgipaccfnlklcaaGreatj1
set_option linter.unusedVariables false
set_option maxRecDepth 100000
namespace Go.Proofs.YtgipaccfnlklcaaGreat
noncomputable section
open Go.L

def o62 : O := O.cells 0 ([.sl 20 0 0 3 1 none, .nils, .ptr 21 0 0, .ptr 24 0 0, .ptr 25 0 0, .sl 28 0 0 1 4 none, .map 35, J 0, J 1, .nils, .ptr 36 0 0, .nils, J 0, .nils])
def o63 : O := O.cells 0 ([.sl 22 0 0 256 3 (some 256), .map 23])
def o64 : O := O.cells 0 ([.map 26, .map 27])
def o65 : O := O.cells 0 ([.ptr 29 0 0, .ptr 34 0 0, J 0, J 0])
def o66 : O := O.cells 0 ([.sl 30 0 0 3 1 none, J 0, .ptr 31 0 0, .ptr 32 0 0, .ptr 33 0 0])
def rw6_0 : Row := ([.ptr 1 0 0],
 [o0, o1, o0, o2, o3, o4, o5, o6, o4, o4, o7, o8, o0, o9, o9, o9, o10, o4, o11],
 [.str (ByteArray.mk #[67, 82, 73, 49, 3, 0, 1, 2, 0, 0, 128, 2, 0, 0, 0, 0, 0, 0, 0, 0, 0, 0, 0, 0, 0, 0, 0, 0, 0, 0, 0, 0, 0, 0, 0, 0, 0, 0, 0, 0, 0, 0, 0, 0, 0, 0, 0, 0, 0, 0, 0, 0, 0, 0, 0, 0, 0, 0, 0, 0, 0, 0, 0, 0, 0, 0, 0, 0, 0, 0, 0, 0, 0, 0, 0, 0, 0, 0, 0, 0, 0, 0, 0, 0, 0, 0, 0, 0, 0, 0, 0, 0, 0, 0, 0, 0, 0, 0, 0, 0, 0, 0, 0, 0, 0, 0, 0, 0, 0, 0, 0, 0, 0, 0, 0, 0, 0, 0, 0, 0, 0, 0, 0, 0, 0, 0, 0, 0, 0, 0, 0, 0, 0, 0, 0, 0, 0, 0, 0, 0, 0, 0, 0, 0, 0, 0, 0, 0, 0, 0, 0, 0, 0, 0, 0, 0, 0, 0, 0, 0, 0, 0, 0, 0, 0, 0, 0, 0, 0, 0, 0, 0, 0, 0, 0, 0, 0, 0, 0, 0, 0, 0, 0, 0, 0, 0, 0, 0, 0, 0, 0, 0, 0, 0, 0, 0, 0, 0, 0, 0, 0, 0, 0, 0, 0, 0, 0, 0, 0, 0, 0, 0, 0, 0, 0, 0, 0, 0, 0, 0, 0, 0, 0, 0, 0, 0, 0, 0, 0, 0, 0, 0, 0, 0, 0, 0, 0, 0, 0, 0, 0, 0, 0, 0, 0, 0, 0, 0, 0, 0, 0, 0, 0, 0, 0, 0, 0, 0, 0, 0, 0, 0, 0, 0, 0, 0, 0, 0, 1, 0, 0, 0, 0, 0, 0, 0, 0, 0, 1, 0, 154, 1, 176, 183]), J 0],
 [o0, o1, o0, o2, o3, o4, o5, o6, o4, o4, o7, o8, o0, o9, o9, o9, o10, o4, o11])
def rw29_0 : Row := ([.str (ByteArray.mk #[67, 82, 73, 49])],
 [o0, o1, o0, o2, o3, o4, o5, o6, o4, o4, o7, o8, o0, o9, o9, o9, o10, o4, o11, o62, o0, o63, o3, o4, o5, o64, o4, o4, o65, o66, o0, o9, o9, o9, o10, o4, o11],
 [.agg [.nils, .nils, .nils, .nils, .nils, .nils, .nils, .nils, .nils, .nils, J 0, J 0, .nils], J 80, J 4],
 [o0, o1, o0, o2, o3, o4, o5, o6, o4, o4, o7, o8, o0, o9, o9, o9, o10, o4, o11, o62, o0, o63, o3, o4, o5, o64, o4, o4, o65, o66, o0, o9, o9, o9, o10, o4, o11])

end
end Go.Proofs.YtgipaccfnlklcaaGreat
