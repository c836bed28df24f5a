/- What was played ahead: objects and rows. -/
import Derived.Test.YtgipaccfnlklcaaGreath2
set_option linter.unusedVariables false
set_option maxRecDepth 100000
namespace Go.Proofs.YtgipaccfnlklcaaGreat
noncomputable section
open Go.L

def J (n : Int) : V := .int .i64 n
def o0 : O := O.cells 0 ([J 0, J 1, J 2])
def o1 : O := O.cells 0 ([.sl 2 0 0 3 1 none, .nils, .ptr 3 0 0, .ptr 6 0 0, .ptr 7 0 0, .sl 10 0 0 1 4 none, .map 17, J 0, J 1, .nils, .ptr 18 0 0, .nils, J 0, .nils])
def o2 : O := O.cells 0 ([.sl 4 0 0 256 3 (some 256), .map 5])
def o3 : O := O.cells 0 ((repeatC 256 [J 0, .bool false, .str (ByteArray.mk #[])]))
def o4 : O := O.map 0 [] []
def o5 : O := O.cells 0 ([J 1] ++ (List.replicate 48 (J 0)))
def o6 : O := O.cells 0 ([.map 8, .map 9])
def o7 : O := O.cells 0 ([.ptr 11 0 0, .ptr 16 0 0, J 0, J 0])
def o8 : O := O.cells 0 ([.sl 12 0 0 3 1 none, J 0, .ptr 13 0 0, .ptr 14 0 0, .ptr 15 0 0])
def o9 : O := O.cells 0 ([J 64, .nils])
def o10 : O := O.cells 0 ([.bool true, J 0, J 0] ++ (List.replicate 257 (.nils)))
def o11 : O := O.cells 0 ([J 4096, .nils] ++ (List.replicate 34 (J 0)))
def o12 : O := O.cells 0 ([.sl 1 0 0 3 1 none, .nils, .ptr 2 0 0, .ptr 5 0 0, .ptr 6 0 0, .sl 9 0 0 1 4 none, .map 16, J 0, J 1, .nils, .ptr 17 0 0, .nils, J 0, .nils])
def o13 : O := O.cells 0 ([.sl 3 0 0 256 3 (some 256), .map 4])
def o14 : O := O.cells 0 ([.map 7, .map 8])
def o15 : O := O.cells 0 ([.ptr 10 0 0, .ptr 15 0 0, J 0, J 0])
def o16 : O := O.cells 0 ([.sl 11 0 0 3 1 none, J 0, .ptr 12 0 0, .ptr 13 0 0, .ptr 14 0 0])
def o17 : O := O.cells 255 ((List.replicate 256 (J 0)))
def o18 : O := O.cells 0 ([.sl 21 0 0 0 3 (some 0), .sl 22 0 0 0 3 (some 0), .sl 23 0 0 0 3 (some 0)])
def o19 : O := O.cells 0 ([])
def o20 : O := O.cells 0 ([J 0])
def o21 : O := O.cells 0 ([.nils])
def o22 : O := O.cells 0 ([.sl 3 0 0 0 3 (some 0), .sl 4 0 0 0 3 (some 0), .sl 5 0 0 0 3 (some 0)])
def o23 : O := O.cells 0 ([.sl 11 0 0 3 1 none, J 0, .ptr 13 0 0, .ptr 14 0 0, .ptr 15 0 0])
def o24 : O := O.cells 0 ([.sl 17 0 0 3 1 none, .nils, .ptr 18 0 0, .ptr 21 0 0, .ptr 22 0 0, .sl 25 0 0 1 4 none, .map 32, J 0, J 1, .nils, .ptr 33 0 0, .nils, J 0, .nils])
def o25 : O := O.cells 0 ([.sl 19 0 0 256 3 (some 256), .map 20])
def o26 : O := O.cells 0 ([.map 23, .map 24])
def o27 : O := O.cells 0 ([.ptr 26 0 0, .ptr 31 0 0, J 0, J 0])
def o28 : O := O.cells 0 ([.sl 27 0 0 3 1 none, J 0, .ptr 28 0 0, .ptr 29 0 0, .ptr 30 0 0])
def o29 : O := O.cells 0 ([.str (ByteArray.mk #[67, 82, 73, 49, 3, 0, 1, 2, 0, 0, 128, 2, 0, 0, 0, 0, 0, 0, 0, 0, 0, 0, 0, 0, 0, 0, 0, 0, 0, 0, 0, 0, 0, 0, 0, 0, 0, 0, 0, 0, 0, 0, 0, 0, 0, 0, 0, 0, 0, 0, 0, 0, 0, 0, 0, 0, 0, 0, 0, 0, 0, 0, 0, 0, 0, 0, 0, 0, 0, 0, 0, 0, 0, 0, 0, 0, 0, 0, 0, 0, 0, 0, 0, 0, 0, 0, 0, 0, 0, 0, 0, 0, 0, 0, 0, 0, 0, 0, 0, 0, 0, 0, 0, 0, 0, 0, 0, 0, 0, 0, 0, 0, 0, 0, 0, 0, 0, 0, 0, 0, 0, 0, 0, 0, 0, 0, 0, 0, 0, 0, 0, 0, 0, 0, 0, 0, 0, 0, 0, 0, 0, 0, 0, 0, 0, 0, 0, 0, 0, 0, 0, 0, 0, 0, 0, 0, 0, 0, 0, 0, 0, 0, 0, 0, 0, 0, 0, 0, 0, 0, 0, 0, 0, 0, 0, 0, 0, 0, 0, 0, 0, 0, 0, 0, 0, 0, 0, 0, 0, 0, 0, 0, 0, 0, 0, 0, 0, 0, 0, 0, 0, 0, 0, 0, 0, 0, 0, 0, 0, 0, 0, 0, 0, 0, 0, 0, 0, 0, 0, 0, 0, 0, 0, 0, 0, 0, 0, 0, 0, 0, 0, 0, 0, 0, 0, 0, 0, 0, 0, 0, 0, 0, 0, 0, 0, 0, 0, 0, 0, 0, 0, 0, 0, 0, 0, 0, 0, 0, 0, 0, 0, 0, 0, 0, 0, 0, 0, 0, 1, 0, 0, 0, 0, 0, 0, 0, 0, 0, 1, 0, 154, 1, 176, 183]), J 4, J (-1)])
def o30 : O := O.cells 0 ([.str (ByteArray.mk #[67, 82, 73, 49, 3, 0, 1, 2, 0, 0, 128, 2, 0, 0, 0, 0, 0, 0, 0, 0, 0, 0, 0, 0, 0, 0, 0, 0, 0, 0, 0, 0, 0, 0, 0, 0, 0, 0, 0, 0, 0, 0, 0, 0, 0, 0, 0, 0, 0, 0, 0, 0, 0, 0, 0, 0, 0, 0, 0, 0, 0, 0, 0, 0, 0, 0, 0, 0, 0, 0, 0, 0, 0, 0, 0, 0, 0, 0, 0, 0, 0, 0, 0, 0, 0, 0, 0, 0, 0, 0, 0, 0, 0, 0, 0, 0, 0, 0, 0, 0, 0, 0, 0, 0, 0, 0, 0, 0, 0, 0, 0, 0, 0, 0, 0, 0, 0, 0, 0, 0, 0, 0, 0, 0, 0, 0, 0, 0, 0, 0, 0, 0, 0, 0, 0, 0, 0, 0, 0, 0, 0, 0, 0, 0, 0, 0, 0, 0, 0, 0, 0, 0, 0, 0, 0, 0, 0, 0, 0, 0, 0, 0, 0, 0, 0, 0, 0, 0, 0, 0, 0, 0, 0, 0, 0, 0, 0, 0, 0, 0, 0, 0, 0, 0, 0, 0, 0, 0, 0, 0, 0, 0, 0, 0, 0, 0, 0, 0, 0, 0, 0, 0, 0, 0, 0, 0, 0, 0, 0, 0, 0, 0, 0, 0, 0, 0, 0, 0, 0, 0, 0, 0, 0, 0, 0, 0, 0, 0, 0, 0, 0, 0, 0, 0, 0, 0, 0, 0, 0, 0, 0, 0, 0, 0, 0, 0, 0, 0, 0, 0, 0, 0, 0, 0, 0, 0, 0, 0, 0, 0, 0, 0, 0, 0, 0, 0, 0, 0, 1, 0, 0, 0, 0, 0, 0, 0, 0, 0, 1, 0, 154, 1, 176, 183]), J 280, J (-1)])
def o31 : O := O.cells 2 ([J 0, J 1, J 2])
def o32 : O := O.cells 0 ([.nils, .nils, .nils])
def o33 : O := O.cells 0 ([.sl 8 0 0 3 1 none, J 0, .ptr 10 0 0, .ptr 11 0 0, .ptr 12 0 0])
def o34 : O := O.cells 0 ([.sl 14 0 0 3 1 none, .nils, .ptr 15 0 0, .ptr 18 0 0, .ptr 19 0 0, .sl 22 0 0 1 4 none, .map 29, J 0, J 1, .nils, .ptr 30 0 0, .nils, J 0, .nils])
def o35 : O := O.cells 0 ([.sl 16 0 0 256 3 (some 256), .map 17])
def o36 : O := O.cells 0 ([.map 20, .map 21])
def o37 : O := O.cells 0 ([.ptr 23 0 0, .ptr 28 0 0, J 0, J 0])
def o38 : O := O.cells 0 ([.sl 24 0 0 3 1 none, J 0, .ptr 25 0 0, .ptr 26 0 0, .ptr 27 0 0])
def o39 : O := O.cells 0 ([.sl 9 0 0 3 1 none, .nils, .ptr 10 0 0, .ptr 13 0 0, .ptr 14 0 0, .sl 17 0 0 1 4 none, .map 24, J 0, J 1, .nils, .ptr 25 0 0, .nils, J 0, .nils])
def o40 : O := O.cells 0 ([.sl 11 0 0 256 3 (some 256), .map 12])
def o41 : O := O.cells 0 ([.map 15, .map 16])
def o42 : O := O.cells 0 ([.ptr 18 0 0, .ptr 23 0 0, J 0, J 0])
def o43 : O := O.cells 0 ([.sl 19 0 0 3 1 none, J 0, .ptr 20 0 0, .ptr 21 0 0, .ptr 22 0 0])
def o44 : O := O.cells 0 ([.sl 27 0 0 3 1 none, J 0, .ptr 29 0 0, .ptr 30 0 0, .ptr 31 0 0])
def o45 : O := O.cells 0 ([.sl 33 0 0 3 1 none, .nils, .ptr 34 0 0, .ptr 37 0 0, .ptr 38 0 0, .sl 41 0 0 1 4 none, .map 48, J 0, J 1, .nils, .ptr 49 0 0, .nils, J 0, .nils])
def o46 : O := O.cells 0 ([.sl 35 0 0 256 3 (some 256), .map 36])
def o47 : O := O.cells 0 ([.map 39, .map 40])
def o48 : O := O.cells 0 ([.ptr 42 0 0, .ptr 47 0 0, J 0, J 0])
def o49 : O := O.cells 0 ([.sl 43 0 0 3 1 none, J 0, .ptr 44 0 0, .ptr 45 0 0, .ptr 46 0 0])
def o50 : O := O.cells 0 ([.str (ByteArray.mk #[67, 82, 73, 49]), J 4, J (-1)])
def o51 : O := O.cells 0 ([.str (ByteArray.mk #[67, 82, 73, 49]), J 4, J 4])
def rw34_0 : Row := ([J 1, .sl 0 0 0 3 1 (some 3)],
 [o0],
 [.ptr 1 0 0, J 0],
 [o0, o1, o0, o2, o3, o4, o5, o6, o4, o4, o7, o8, o0, o9, o9, o9, o10, o4, o11])
def rw34_1 : Row := ([J 1, .sl 0 0 0 3 1 none],
 [o0, o17, o22, o19, o19, o19, o20, o20, o20, o21, o4, o0, o23, o9, o9, o9],
 [.ptr 16 0 0, J 0],
 [o0, o17, o22, o19, o19, o19, o20, o20, o20, o21, o4, o0, o23, o9, o9, o9, o24, o0, o25, o3, o4, o5, o26, o4, o4, o27, o28, o0, o9, o9, o9, o10, o4, o11])
def rw34_2 : Row := ([J 1, .sl 0 2 0 3 1 none],
 [o31, o17, o32, o20, o20, o20, o21, o4, o0, o33, o9, o9, o9],
 [.ptr 13 0 0, J 0],
 [o31, o17, o32, o20, o20, o20, o21, o4, o0, o33, o9, o9, o9, o34, o0, o35, o3, o4, o5, o36, o4, o4, o37, o38, o0, o9, o9, o9, o10, o4, o11])
def rw34_3 : Row := ([J 1, .sl 1 2 0 3 1 none],
 [o30, o31, o17, o32, o20, o20, o20, o21, o39, o0, o40, o3, o4, o5, o41, o4, o4, o42, o43, o0, o9, o9, o9, o10, o4, o11, o4, o0, o44, o9, o9, o9],
 [.ptr 32 0 0, J 0],
 [o30, o31, o17, o32, o20, o20, o20, o21, o39, o0, o40, o3, o4, o5, o41, o4, o4, o42, o43, o0, o9, o9, o9, o10, o4, o11, o4, o0, o44, o9, o9, o9, o45, o0, o46, o3, o4, o5, o47, o4, o4, o48, o49, o0, o9, o9, o9, o10, o4, o11])
def rw14_0 : Row := ([.ptr 0 0 0],
 [o12, o0, o13, o3, o4, o5, o14, o4, o4, o15, o16, o0, o9, o9, o9, o10, o4, o11],
 [.agg [.sl 18 0 0 3 1 none, .nils, .nils, .sl 19 255 0 256 1 none, .sl 20 0 0 1 3 none, .sl 24 0 0 1 1 none, .sl 25 0 0 1 1 none, .sl 26 0 0 1 1 none, .sl 27 0 0 1 1 none, .nils, J 0, J 1, .nils]],
 [o12, o0, o13, o3, o4, o5, o14, o4, o4, o15, o16, o0, o9, o9, o9, o10, o4, o11, o0, o17, o18, o19, o19, o19, o20, o20, o20, o21])
def rw72_0 : Row := ([.ptr 0 0 0],
 [o29],
 [.agg [.sl 1 2 0 3 1 none, .nils, .nils, .sl 2 255 0 256 1 none, .sl 3 0 0 1 3 none, .sl 4 0 0 1 1 none, .sl 5 0 0 1 1 none, .sl 6 0 0 1 1 none, .sl 7 0 0 1 1 none, .nils, J 0, J 1, .nils]],
 [o30, o31, o17, o32, o20, o20, o20, o21])
def rw72_1 : Row := ([.ptr 0 0 0],
 [o50],
 [.agg [.nils, .nils, .nils, .nils, .nils, .nils, .nils, .nils, .nils, .nils, J 0, J 0, .nils]],
 [o51])

end
end Go.Proofs.YtgipaccfnlklcaaGreat
