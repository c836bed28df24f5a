/- What was played ahead: objects and rows. -/
import Derived.Test.YtgipaccfnlklcaaGreati1
set_option linter.unusedVariables false
set_option maxRecDepth 100000
namespace Go.Proofs.YtgipaccfnlklcaaGreat
noncomputable section
open Go.L

def o52 : O := O.cells 0 ([.sl 11 0 0 3 1 none, .nils, .ptr 12 0 0, .ptr 15 0 0, .ptr 16 0 0, .sl 19 0 0 1 4 none, .map 26, J 0, J 1, .nils, .ptr 27 0 0, .nils, J 0, .nils])
def o53 : O := O.cells 0 ([.sl 13 0 0 256 3 (some 256), .map 14])
def o54 : O := O.cells 0 ([.map 17, .map 18])
def o55 : O := O.cells 0 ([.ptr 20 0 0, .ptr 25 0 0, J 0, J 0])
def o56 : O := O.cells 0 ([.sl 21 0 0 3 1 none, J 0, .ptr 22 0 0, .ptr 23 0 0, .ptr 24 0 0])
def o57 : O := O.cells 0 ([.sl 8 0 0 3 1 none, .nils, .ptr 9 0 0, .ptr 12 0 0, .ptr 13 0 0, .sl 16 0 0 1 4 none, .map 23, J 0, J 1, .nils, .ptr 24 0 0, .nils, J 0, .nils])
def o58 : O := O.cells 0 ([.sl 10 0 0 256 3 (some 256), .map 11])
def o59 : O := O.cells 0 ([.map 14, .map 15])
def o60 : O := O.cells 0 ([.ptr 17 0 0, .ptr 22 0 0, J 0, J 0])
def o61 : O := O.cells 0 ([.sl 18 0 0 3 1 none, J 0, .ptr 19 0 0, .ptr 20 0 0, .ptr 21 0 0])
def rw33_0 : Row := ([.agg [.sl 0 0 0 3 1 none, .nils, .nils, .sl 1 255 0 256 1 none, .sl 2 0 0 1 3 none, .sl 6 0 0 1 1 none, .sl 7 0 0 1 1 none, .sl 8 0 0 1 1 none, .sl 9 0 0 1 1 none, .nils, J 0, J 1, .nils]],
 [o0, o17, o22, o19, o19, o19, o20, o20, o20, o21],
 [.ptr 10 0 0, J 0],
 [o0, o17, o22, o19, o19, o19, o20, o20, o20, o21, o52, o0, o53, o3, o4, o5, o54, o4, o4, o55, o56, o0, o9, o9, o9, o10, o4, o11])
def rw33_1 : Row := ([.agg [.sl 0 2 0 3 1 none, .nils, .nils, .sl 1 255 0 256 1 none, .sl 2 0 0 1 3 none, .sl 3 0 0 1 1 none, .sl 4 0 0 1 1 none, .sl 5 0 0 1 1 none, .sl 6 0 0 1 1 none, .nils, J 0, J 1, .nils]],
 [o31, o17, o32, o20, o20, o20, o21],
 [.ptr 7 0 0, J 0],
 [o31, o17, o32, o20, o20, o20, o21, o57, o0, o58, o3, o4, o5, o59, o4, o4, o60, o61, o0, o9, o9, o9, o10, o4, o11])

end
end Go.Proofs.YtgipaccfnlklcaaGreat
