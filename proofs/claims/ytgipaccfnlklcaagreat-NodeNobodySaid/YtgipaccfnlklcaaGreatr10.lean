/- What was played ahead: objects and rows. -/
import Derived.Test.YtgipaccfnlklcaaGreath1
set_option linter.unusedVariables false
set_option maxRecDepth 100000
namespace Go.Proofs.YtgipaccfnlklcaaGreat
noncomputable section
open Go.L

def o86 : O := O.cells 0 ([.sl 2 0 0 3 1 none, .sl 27 0 0 1 2 none, .ptr 64 0 0, .ptr 6 0 0, .ptr 7 0 0, .sl 10 1 0 2 4 none, .map 23, J 0, J 1, .nils, .ptr 24 0 0, .sl 30 6 0 7 29 none, J 0, .nils])
def o87 : O := O.cells 0 ([J 2, J 0, J 0, J 2, J 0, J 0, J 3] ++ (List.replicate 42 (J 0)))
def o88 : O := O.cells 1 ([.ptr 11 0 0, .ptr 16 0 0, J 0, J 0, .ptr 17 0 0, .ptr 22 0 0, J 1, J 0])
def o89 : O := O.cells 0 ([J 64, .sl 37 4 0 2 3 (some 2)])
def o90 : O := O.cells 0 ([.sl 18 0 0 3 1 none, J 1, .ptr 19 0 0, .ptr 20 0 0, .ptr 21 0 0])
def o91 : O := O.cells 0 ([J 64, .sl 71 1 0 3 3 none])
def o92 : O := O.cells 0 ([J 4096, .sl 42 6 0 7 6 none, J 0, J 0, J 5, J 0, J 1, J 0, J 1, J 0, J 0, J 0, J 0, J 0, J 0, J 10, J 0, J 57, J 0, J 0, J 0, J 0, J 0, J 0, J 0, J 0, J 0, J 0, J 57, J 0, J 3, J 0, J 0, J 0, J 0, J 0])
def o93 : O := O.cells 6 ([J 1, J 0, J 0, J 0, J 0, J 0, J 0, .nils, J 0, .bool false, .nils, .nils, J 0, J 0, J 0, J 0, J 0, J 0, J 0, J 0, .cplx .f64 0 0, .str (ByteArray.mk #[]), J 0, J 0, .nils, J 0, J 0, .nils, .sl 31 0 0 1 2 (some 1), J 2, J 0, J 2, J 0, J 0, J 0, J 1, .nils, J 0, .bool false, .nils, .nils, J 0, J 0, J 0, J 0, J 0, J 0, J 0, J 0, .cplx .f64 0 0, .str (ByteArray.mk #[]), J 0, J 0, .nils, J 0, J 0, .nils, .nils, J 2, J 0, J 2, J 0, J 0, J 1, J 1, .nils, J 0, .bool false, .nils, .nils, J 0, J 0, J 0, J 0, J 0, J 0, J 0, J 0, .cplx .f64 0 0, .str (ByteArray.mk #[]), J 0, J 0, .nils, J 0, J 0, .nils, .nils, J 2, J 0, J 2, J 0, J 0, J 2, J 1, .nils, J 0, .bool false, .nils, .nils, J 0, J 0, J 0, J 0, J 0, J 0, J 0, J 0, .cplx .f64 0 0, .str (ByteArray.mk #[]), J 0, J 0, .nils, J 0, J 0, .nils, .nils, J 2, J 0, J 2, J 0, J 0, J 3, J 1, .nils, J 0, .bool false, .nils, .nils, J 0, J 0, J 0, J 0, J 0, J 0, J 0, J 0, .cplx .f64 0 0, .str (ByteArray.mk #[]), J 0, J 0, .nils, J 0, J 0, .nils, .nils, J 2, J 0, J 2, J 0, J 0, J 4, J 1, .nils, J 0, .bool false, .nils, .nils, J 0, J 0, J 0, J 0, J 0, J 0, J 0, J 0, .cplx .f64 0 0, .str (ByteArray.mk #[]), J 0, J 0, .nils, J 0, J 0, .nils, .nils, J 5, J 1, J 0, J 0, J 0, J 0, J 0, .nils, J 0, .bool false, .nils, .nils, J 0, J 2, J 3, J 2, J 1, J 1, J 0, J 0, .cplx .f64 0 0, .str (ByteArray.mk #[]), J 0, J 0, .nils, J 57, J 57, .nils, .nils])
def o94 : O := O.cells 6 ([J 1, J 0, J 0, J 1, J 2, J 0, J 1, J 0, J 1, J 1, J 2, J 0, J 1, J 0, J 2, J 1, J 2, J 0, J 1, J 0, J 3, J 1, J 2, J 0, J 1, J 0, J 4, J 1, J 2, J 0, J 5, J 1, J 0, J 0, J 0, J 3, J 3, J 1, J 2, J 1, J 57, J 57])
def o95 : O := O.cells 0 ([J 2, J 1, J 2, J 1, J 0, .ptr 54 0 0, .ptr 56 0 0, J 1, .bool false, .bool false, J 57, J (-1)])
def o96 : O := O.cells 0 ([.bool true, .sl 72 0 0 1 4 none, .nils])
def o97 : O := O.cells 0 ([J 3, J 1, J 2, J 1, J 0, .ptr 61 0 0, .ptr 63 0 0, J 1, .bool false, .bool true, J 0, J (-1)])
def o98 : O := O.cells 0 ([J 4, J 1, J 2, J 1, J 0, .ptr 68 0 0, .ptr 70 0 0, J 1, .bool false, .bool true, J 0, J (-1)])
def o99 : O := O.cells 1 ([J 3, J 1, .bool true, J 4, J 1, .bool true, J 2, J 1, .bool false])
def rw12_0 : Row := ([.ptr 1 0 0, J 1, J 0],
 [o0, o71, o0, o2, o3, o4, o72, o6, o4, o4, o7, o8, o0, o9, o9, o73, o10, o11, o0, o9, o9, o9, o10, o74, o75, o13, o14, o16, o17, o13, o76, o19, o20, o13, o27, o28, o4, o77, o30, o31, o32, o33, o78, o43, o44, o4, o45, o46, o32, o33, o55, o56, o4, o57, o58, o32, o33, o67, o68, o4, o69, o70, o32, o33, o79, o80, o4, o81, o82, o32, o33],
 [.agg [.bool false, .nils, .nils, J 0, J 2, J 3, J 2, J 1, J 1, J 0, J 0, .cplx .f64 0 0, .str (ByteArray.mk #[]), J 0, J 0, .nils, J 57, J 57, .nils], J 0],
 [o0, o86, o0, o2, o3, o4, o87, o6, o4, o4, o88, o8, o0, o9, o9, o89, o10, o90, o0, o9, o9, o91, o10, o74, o92, o13, o14, o16, o17, o13, o93, o19, o20, o13, o27, o28, o4, o77, o30, o31, o32, o33, o94, o43, o44, o4, o45, o46, o32, o33, o55, o56, o4, o95, o96, o32, o33, o67, o68, o4, o97, o70, o32, o33, o79, o80, o4, o98, o82, o32, o33, o99, o32])

end
end Go.Proofs.YtgipaccfnlklcaaGreat
