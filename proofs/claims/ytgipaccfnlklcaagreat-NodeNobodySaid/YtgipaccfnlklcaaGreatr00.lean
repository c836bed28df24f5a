/- What was played ahead: objects and rows. -/
import Derived.Test.YtgipaccfnlklcaaGreatg3
set_option linter.unusedVariables false
set_option maxRecDepth 100000
namespace Go.Proofs.YtgipaccfnlklcaaGreat
noncomputable section
open Go.L

def J (n : Int) : V := .int .i64 n
def o0 : O := O.cells 0 ([J 0, J 1, J 2])
def o1 : O := O.cells 0 ([.sl 2 0 0 3 1 none, .nils, .ptr 3 0 0, .ptr 6 0 0, .ptr 7 0 0, .sl 10 1 0 2 4 none, .map 23, J 0, J 1, .nils, .ptr 24 0 0, .nils, J 0, .nils])
def o2 : O := O.cells 0 ([.sl 4 0 0 256 3 (some 256), .map 5])
def o3 : O := O.cells 0 ((repeatC 256 [J 0, .bool false, .str (ByteArray.mk #[])]))
def o4 : O := O.map 0 [] []
def o5 : O := O.cells 0 ([J 2] ++ (List.replicate 48 (J 0)))
def o6 : O := O.cells 0 ([.map 8, .map 9])
def o7 : O := O.cells 1 ([.ptr 11 0 0, .ptr 16 0 0, J 0, J 0, .ptr 17 0 0, .ptr 22 0 0, J 0, J 0])
def o8 : O := O.cells 0 ([.sl 12 0 0 3 1 none, J 0, .ptr 13 0 0, .ptr 14 0 0, .ptr 15 0 0])
def o9 : O := O.cells 0 ([J 64, .nils])
def o10 : O := O.cells 0 ([.bool true, J 0, J 0] ++ (List.replicate 257 (.nils)))
def o11 : O := O.cells 0 ([.sl 18 0 0 3 1 none, J 0, .ptr 19 0 0, .ptr 20 0 0, .ptr 21 0 0])
def o12 : O := O.cells 0 ([J 4096, .nils] ++ (List.replicate 34 (J 0)))
def o13 : O := O.cells 0 ([J 25, J 0, J 0, J 0, J 0, .cplx .f64 0 0, .str (ByteArray.mk #[]), J 0, J 0, .nils, .nils])
def o14 : O := O.cells 0 ([.str (ByteArray.mk #[102]), J 0, J 0, .sl 25 0 0 1 11 (some 1)])
def o15 : O := O.cells 0 ([.sl 2 0 0 3 1 none, .sl 27 0 0 1 2 none, .ptr 3 0 0, .ptr 6 0 0, .ptr 7 0 0, .sl 10 1 0 2 4 none, .map 23, J 0, J 1, .nils, .ptr 24 0 0, .sl 30 0 0 1 29 none, J 0, .nils])
def o16 : O := O.cells 0 ([.str (ByteArray.mk #[109]), .sl 28 0 0 1 4 none])
def o17 : O := O.cells 0 ([.str (ByteArray.mk #[102]), J 0, J 0, .sl 29 0 0 1 11 none])
def o18 : O := O.cells 0 ([J 1, J 0, J 0, J 0, J 0, J 0, J 0, .nils, J 0, .bool false, .nils, .nils, J 0, J 0, J 0, J 0, J 0, J 0, J 0, J 0, .cplx .f64 0 0, .str (ByteArray.mk #[]), J 0, J 0, .nils, J 0, J 0, .nils, .sl 31 0 0 1 2 (some 1)])
def o19 : O := O.cells 0 ([.str (ByteArray.mk #[109]), .sl 32 0 0 1 4 none])
def o20 : O := O.cells 0 ([.str (ByteArray.mk #[102]), J 0, J 0, .sl 33 0 0 1 11 none])
def o21 : O := O.cells 0 ([.sl 2 0 0 3 1 none, .sl 27 0 0 1 2 none, .ptr 34 0 0, .ptr 6 0 0, .ptr 7 0 0, .sl 10 1 0 2 4 none, .map 23, J 0, J 1, .nils, .ptr 24 0 0, .sl 30 1 0 2 29 none, J 0, .nils])
def o22 : O := O.cells 0 ([J 2, J 0, J 0, J 1] ++ (List.replicate 45 (J 0)))
def o23 : O := O.cells 0 ([J 64, .sl 37 0 0 1 3 none])
def o24 : O := O.map 1 [0] [(J 0, .ptr 38 0 0)]
def o25 : O := O.cells 0 ([J 4096, .sl 42 0 0 1 6 none, J 0, J 0, J 1, J 0, J 0, J 0, J 0, J 0, J 0, J 0, J 0, J 0, J 0, J 2, J 0, J 0, J 0, J 0, J 0, J 0, J 0, J 0, J 0, J 0, J 0, J 0, J 0, J 0, J 0, J 0, J 0, J 0, J 0, J 0])
def o26 : O := O.cells 1 ([J 1, J 0, J 0, J 0, J 0, J 0, J 0, .nils, J 0, .bool false, .nils, .nils, J 0, J 0, J 0, J 0, J 0, J 0, J 0, J 0, .cplx .f64 0 0, .str (ByteArray.mk #[]), J 0, J 0, .nils, J 0, J 0, .nils, .sl 31 0 0 1 2 (some 1), J 2, J 0, J 2, J 0, J 0, J 0, J 1, .nils, J 0, .bool false, .nils, .nils, J 0, J 0, J 0, J 0, J 0, J 0, J 0, J 0, .cplx .f64 0 0, .str (ByteArray.mk #[]), J 0, J 0, .nils, J 0, J 0, .nils, .nils])
def o27 : O := O.cells 0 ([.sl 35 0 0 256 3 none, .map 36])
def o28 : O := O.cells 0 ([J 1, .bool true] ++ (repeatC 255 [.str (ByteArray.mk #[]), J 0, .bool false]) ++ ([.str (ByteArray.mk #[])]))
def o29 : O := O.cells 0 ([J 0, J 1, .bool false])
def o30 : O := O.cells 0 ([J 0, J 1, J 2, J 0, J 0, .ptr 39 0 0, .ptr 41 0 0, J 1, .bool false, .bool false, J 0, J (-1)])
def o31 : O := O.cells 0 ([.bool true, .sl 40 0 0 1 4 none, .nils])
def o32 : O := O.cells 0 ([J 0, J 0, .nils, J 0])
def o33 : O := O.cells 0 ([.bool true, .nils, .nils, J 0, J 0])
def o34 : O := O.cells 0 ([J 1, J 0, J 0, J 1, J 2, J 0])
def o35 : O := O.cells 0 ([.sl 2 0 0 3 1 none, .sl 27 0 0 1 2 none, .ptr 43 0 0, .ptr 6 0 0, .ptr 7 0 0, .sl 10 1 0 2 4 none, .map 23, J 0, J 1, .nils, .ptr 24 0 0, .sl 30 2 0 3 29 none, J 0, .nils])
def o36 : O := O.cells 0 ([J 2, J 0, J 0, J 2] ++ (List.replicate 45 (J 0)))
def o37 : O := O.cells 0 ([J 64, .sl 37 1 0 2 3 none])
def o38 : O := O.map 2 [0, 1] [(J 0, .ptr 38 0 0), (J 1, .ptr 46 0 0)]
def o39 : O := O.cells 0 ([J 4096, .sl 42 1 0 2 6 none, J 0, J 0, J 2, J 0, J 0, J 0, J 0, J 0, J 0, J 0, J 0, J 0, J 0, J 4, J 0, J 0, J 0, J 0, J 0, J 0, J 0, J 0, J 0, J 0, J 0, J 0, J 0, J 0, J 0, J 0, J 0, J 0, J 0, J 0])
def o40 : O := O.cells 2 ([J 1, J 0, J 0, J 0, J 0, J 0, J 0, .nils, J 0, .bool false, .nils, .nils, J 0, J 0, J 0, J 0, J 0, J 0, J 0, J 0, .cplx .f64 0 0, .str (ByteArray.mk #[]), J 0, J 0, .nils, J 0, J 0, .nils, .sl 31 0 0 1 2 (some 1), J 2, J 0, J 2, J 0, J 0, J 0, J 1, .nils, J 0, .bool false, .nils, .nils, J 0, J 0, J 0, J 0, J 0, J 0, J 0, J 0, .cplx .f64 0 0, .str (ByteArray.mk #[]), J 0, J 0, .nils, J 0, J 0, .nils, .nils, J 2, J 0, J 2, J 0, J 0, J 1, J 1, .nils, J 0, .bool false, .nils, .nils, J 0, J 0, J 0, J 0, J 0, J 0, J 0, J 0, .cplx .f64 0 0, .str (ByteArray.mk #[]), J 0, J 0, .nils, J 0, J 0, .nils, .nils])
def o41 : O := O.cells 1 ([J 0, J 1, .bool false, J 1, J 1, .bool false])
def o42 : O := O.cells 1 ([J 1, J 0, J 0, J 1, J 2, J 0, J 1, J 0, J 1, J 1, J 2, J 0])
def o43 : O := O.cells 0 ([.sl 44 0 0 256 3 none, .map 45])
def o44 : O := O.cells 0 ([J 1, .bool true, .str (ByteArray.mk #[]), J 1, .bool true] ++ (repeatC 254 [.str (ByteArray.mk #[]), J 0, .bool false]) ++ ([.str (ByteArray.mk #[])]))
def o45 : O := O.cells 0 ([J 1, J 1, J 2, J 0, J 0, .ptr 47 0 0, .ptr 49 0 0, J 1, .bool false, .bool false, J 0, J (-1)])
def o46 : O := O.cells 0 ([.bool true, .sl 48 0 0 1 4 none, .nils])
def o47 : O := O.cells 0 ([.sl 2 0 0 3 1 none, .sl 27 0 0 1 2 none, .ptr 50 0 0, .ptr 6 0 0, .ptr 7 0 0, .sl 10 1 0 2 4 none, .map 23, J 0, J 1, .nils, .ptr 24 0 0, .sl 30 3 0 4 29 none, J 0, .nils])
def o48 : O := O.cells 0 ([J 2, J 0, J 0, J 3] ++ (List.replicate 45 (J 0)))
def o49 : O := O.cells 0 ([J 64, .sl 37 2 0 3 3 none])
def o50 : O := O.map 3 [0, 1, 2] [(J 0, .ptr 38 0 0), (J 1, .ptr 46 0 0), (J 2, .ptr 53 0 0)]
def o51 : O := O.cells 0 ([J 4096, .sl 42 2 0 3 6 none, J 0, J 0, J 3, J 0, J 0, J 0, J 0, J 0, J 0, J 0, J 0, J 0, J 0, J 6, J 0, J 0, J 0, J 0, J 0, J 0, J 0, J 0, J 0, J 0, J 0, J 0, J 0, J 0, J 0, J 0, J 0, J 0, J 0, J 0])
def o52 : O := O.cells 3 ([J 1, J 0, J 0, J 0, J 0, J 0, J 0, .nils, J 0, .bool false, .nils, .nils, J 0, J 0, J 0, J 0, J 0, J 0, J 0, J 0, .cplx .f64 0 0, .str (ByteArray.mk #[]), J 0, J 0, .nils, J 0, J 0, .nils, .sl 31 0 0 1 2 (some 1), J 2, J 0, J 2, J 0, J 0, J 0, J 1, .nils, J 0, .bool false, .nils, .nils, J 0, J 0, J 0, J 0, J 0, J 0, J 0, J 0, .cplx .f64 0 0, .str (ByteArray.mk #[]), J 0, J 0, .nils, J 0, J 0, .nils, .nils, J 2, J 0, J 2, J 0, J 0, J 1, J 1, .nils, J 0, .bool false, .nils, .nils, J 0, J 0, J 0, J 0, J 0, J 0, J 0, J 0, .cplx .f64 0 0, .str (ByteArray.mk #[]), J 0, J 0, .nils, J 0, J 0, .nils, .nils, J 2, J 0, J 2, J 0, J 0, J 2, J 1, .nils, J 0, .bool false, .nils, .nils, J 0, J 0, J 0, J 0, J 0, J 0, J 0, J 0, .cplx .f64 0 0, .str (ByteArray.mk #[]), J 0, J 0, .nils, J 0, J 0, .nils, .nils])
def o53 : O := O.cells 2 ([J 0, J 1, .bool false, J 1, J 1, .bool false, J 2, J 1, .bool false])
def o54 : O := O.cells 2 ([J 1, J 0, J 0, J 1, J 2, J 0, J 1, J 0, J 1, J 1, J 2, J 0, J 1, J 0, J 2, J 1, J 2, J 0])
def o55 : O := O.cells 0 ([.sl 51 0 0 256 3 none, .map 52])
def o56 : O := O.cells 0 ([J 1, .bool true, .str (ByteArray.mk #[]), J 1, .bool true, .str (ByteArray.mk #[]), J 1, .bool true] ++ (repeatC 253 [.str (ByteArray.mk #[]), J 0, .bool false]) ++ ([.str (ByteArray.mk #[])]))
def o57 : O := O.cells 0 ([J 2, J 1, J 2, J 0, J 0, .ptr 54 0 0, .ptr 56 0 0, J 1, .bool false, .bool false, J 0, J (-1)])
def o58 : O := O.cells 0 ([.bool true, .sl 55 0 0 1 4 none, .nils])
def o59 : O := O.cells 0 ([.sl 2 0 0 3 1 none, .sl 27 0 0 1 2 none, .ptr 57 0 0, .ptr 6 0 0, .ptr 7 0 0, .sl 10 1 0 2 4 none, .map 23, J 0, J 1, .nils, .ptr 24 0 0, .sl 30 4 0 5 29 none, J 0, .nils])
def o60 : O := O.cells 0 ([J 2, J 0, J 0, J 4] ++ (List.replicate 45 (J 0)))
def o61 : O := O.cells 0 ([J 64, .sl 37 3 0 4 3 none])
def o62 : O := O.map 4 [0, 1, 2, 3] [(J 0, .ptr 38 0 0), (J 1, .ptr 46 0 0), (J 2, .ptr 53 0 0), (J 3, .ptr 60 0 0)]
def o63 : O := O.cells 0 ([J 4096, .sl 42 3 0 4 6 none, J 0, J 0, J 4, J 0, J 0, J 0, J 0, J 0, J 0, J 0, J 0, J 0, J 0, J 8, J 0, J 0, J 0, J 0, J 0, J 0, J 0, J 0, J 0, J 0, J 0, J 0, J 0, J 0, J 0, J 0, J 0, J 0, J 0, J 0])
def o64 : O := O.cells 4 ([J 1, J 0, J 0, J 0, J 0, J 0, J 0, .nils, J 0, .bool false, .nils, .nils, J 0, J 0, J 0, J 0, J 0, J 0, J 0, J 0, .cplx .f64 0 0, .str (ByteArray.mk #[]), J 0, J 0, .nils, J 0, J 0, .nils, .sl 31 0 0 1 2 (some 1), J 2, J 0, J 2, J 0, J 0, J 0, J 1, .nils, J 0, .bool false, .nils, .nils, J 0, J 0, J 0, J 0, J 0, J 0, J 0, J 0, .cplx .f64 0 0, .str (ByteArray.mk #[]), J 0, J 0, .nils, J 0, J 0, .nils, .nils, J 2, J 0, J 2, J 0, J 0, J 1, J 1, .nils, J 0, .bool false, .nils, .nils, J 0, J 0, J 0, J 0, J 0, J 0, J 0, J 0, .cplx .f64 0 0, .str (ByteArray.mk #[]), J 0, J 0, .nils, J 0, J 0, .nils, .nils, J 2, J 0, J 2, J 0, J 0, J 2, J 1, .nils, J 0, .bool false, .nils, .nils, J 0, J 0, J 0, J 0, J 0, J 0, J 0, J 0, .cplx .f64 0 0, .str (ByteArray.mk #[]), J 0, J 0, .nils, J 0, J 0, .nils, .nils, J 2, J 0, J 2, J 0, J 0, J 3, J 1, .nils, J 0, .bool false, .nils, .nils, J 0, J 0, J 0, J 0, J 0, J 0, J 0, J 0, .cplx .f64 0 0, .str (ByteArray.mk #[]), J 0, J 0, .nils, J 0, J 0, .nils, .nils])
def o65 : O := O.cells 3 ([J 0, J 1, .bool false, J 1, J 1, .bool false, J 2, J 1, .bool false, J 3, J 1, .bool false])
def o66 : O := O.cells 3 ([J 1, J 0, J 0, J 1, J 2, J 0, J 1, J 0, J 1, J 1, J 2, J 0, J 1, J 0, J 2, J 1, J 2, J 0, J 1, J 0, J 3, J 1, J 2, J 0])
def o67 : O := O.cells 0 ([.sl 58 0 0 256 3 none, .map 59])
def o68 : O := O.cells 0 ([J 1, .bool true, .str (ByteArray.mk #[]), J 1, .bool true, .str (ByteArray.mk #[]), J 1, .bool true, .str (ByteArray.mk #[]), J 1, .bool true] ++ (repeatC 252 [.str (ByteArray.mk #[]), J 0, .bool false]) ++ ([.str (ByteArray.mk #[])]))
def o69 : O := O.cells 0 ([J 3, J 1, J 2, J 0, J 0, .ptr 61 0 0, .ptr 63 0 0, J 1, .bool false, .bool false, J 0, J (-1)])
def o70 : O := O.cells 0 ([.bool true, .sl 62 0 0 1 4 none, .nils])
def o71 : O := O.cells 0 ([.sl 2 0 0 3 1 none, .sl 27 0 0 1 2 none, .ptr 64 0 0, .ptr 6 0 0, .ptr 7 0 0, .sl 10 1 0 2 4 none, .map 23, J 0, J 1, .nils, .ptr 24 0 0, .sl 30 5 0 6 29 none, J 0, .nils])
def o72 : O := O.cells 0 ([J 2, J 0, J 0, J 5] ++ (List.replicate 45 (J 0)))
def o73 : O := O.cells 0 ([J 64, .sl 37 4 0 5 3 none])
def o74 : O := O.map 5 [0, 1, 2, 3, 4] [(J 0, .ptr 38 0 0), (J 1, .ptr 46 0 0), (J 2, .ptr 53 0 0), (J 3, .ptr 60 0 0), (J 4, .ptr 67 0 0)]
def o75 : O := O.cells 0 ([J 4096, .sl 42 4 0 5 6 none, J 0, J 0, J 5, J 0, J 0, J 0, J 0, J 0, J 0, J 0, J 0, J 0, J 0, J 10, J 0, J 0, J 0, J 0, J 0, J 0, J 0, J 0, J 0, J 0, J 0, J 0, J 0, J 0, J 0, J 0, J 0, J 0, J 0, J 0])
def o76 : O := O.cells 5 ([J 1, J 0, J 0, J 0, J 0, J 0, J 0, .nils, J 0, .bool false, .nils, .nils, J 0, J 0, J 0, J 0, J 0, J 0, J 0, J 0, .cplx .f64 0 0, .str (ByteArray.mk #[]), J 0, J 0, .nils, J 0, J 0, .nils, .sl 31 0 0 1 2 (some 1), J 2, J 0, J 2, J 0, J 0, J 0, J 1, .nils, J 0, .bool false, .nils, .nils, J 0, J 0, J 0, J 0, J 0, J 0, J 0, J 0, .cplx .f64 0 0, .str (ByteArray.mk #[]), J 0, J 0, .nils, J 0, J 0, .nils, .nils, J 2, J 0, J 2, J 0, J 0, J 1, J 1, .nils, J 0, .bool false, .nils, .nils, J 0, J 0, J 0, J 0, J 0, J 0, J 0, J 0, .cplx .f64 0 0, .str (ByteArray.mk #[]), J 0, J 0, .nils, J 0, J 0, .nils, .nils, J 2, J 0, J 2, J 0, J 0, J 2, J 1, .nils, J 0, .bool false, .nils, .nils, J 0, J 0, J 0, J 0, J 0, J 0, J 0, J 0, .cplx .f64 0 0, .str (ByteArray.mk #[]), J 0, J 0, .nils, J 0, J 0, .nils, .nils, J 2, J 0, J 2, J 0, J 0, J 3, J 1, .nils, J 0, .bool false, .nils, .nils, J 0, J 0, J 0, J 0, J 0, J 0, J 0, J 0, .cplx .f64 0 0, .str (ByteArray.mk #[]), J 0, J 0, .nils, J 0, J 0, .nils, .nils, J 2, J 0, J 2, J 0, J 0, J 4, J 1, .nils, J 0, .bool false, .nils, .nils, J 0, J 0, J 0, J 0, J 0, J 0, J 0, J 0, .cplx .f64 0 0, .str (ByteArray.mk #[]), J 0, J 0, .nils, J 0, J 0, .nils, .nils])
def o77 : O := O.cells 4 ([J 0, J 1, .bool false, J 1, J 1, .bool false, J 2, J 1, .bool false, J 3, J 1, .bool false, J 4, J 1, .bool false])
def o78 : O := O.cells 4 ([J 1, J 0, J 0, J 1, J 2, J 0, J 1, J 0, J 1, J 1, J 2, J 0, J 1, J 0, J 2, J 1, J 2, J 0, J 1, J 0, J 3, J 1, J 2, J 0, J 1, J 0, J 4, J 1, J 2, J 0])
def o79 : O := O.cells 0 ([.sl 65 0 0 256 3 none, .map 66])
def o80 : O := O.cells 0 ([J 1, .bool true, .str (ByteArray.mk #[]), J 1, .bool true, .str (ByteArray.mk #[]), J 1, .bool true, .str (ByteArray.mk #[]), J 1, .bool true, .str (ByteArray.mk #[]), J 1, .bool true] ++ (repeatC 251 [.str (ByteArray.mk #[]), J 0, .bool false]) ++ ([.str (ByteArray.mk #[])]))
def o81 : O := O.cells 0 ([J 4, J 1, J 2, J 0, J 0, .ptr 68 0 0, .ptr 70 0 0, J 1, .bool false, .bool false, J 0, J (-1)])
def o82 : O := O.cells 0 ([.bool true, .sl 69 0 0 1 4 none, .nils])
def o83 : O := O.cells 0 ([.str (ByteArray.mk #[102]), J 0, J 0, .sl 1 0 0 1 11 none])
def o84 : O := O.cells 0 ([.bool true, .sl 3 0 0 1 4 none, .nils])
def o85 : O := O.cells 0 ([.bool true, .sl 4 0 0 1 4 none, .nils])
def rw34_0 : Row := ([J 2, .sl 0 0 0 3 1 (some 3)],
 [o0],
 [.ptr 1 0 0, J 0],
 [o0, o1, o0, o2, o3, o4, o5, o6, o4, o4, o7, o8, o0, o9, o9, o9, o10, o11, o0, o9, o9, o9, o10, o4, o12])
def rw9_0 : Row := ([.ptr 1 0 0, .agg [.str (ByteArray.mk #[109]), .sl 26 0 0 1 4 (some 1)]],
 [o0, o1, o0, o2, o3, o4, o5, o6, o4, o4, o7, o8, o0, o9, o9, o9, o10, o11, o0, o9, o9, o9, o10, o4, o12, o13, o14],
 [J 0, J 0],
 [o0, o15, o0, o2, o3, o4, o5, o6, o4, o4, o7, o8, o0, o9, o9, o9, o10, o11, o0, o9, o9, o9, o10, o4, o12, o13, o14, o16, o17, o13, o18, o19, o20, o13])
def rw11_0 : Row := ([.ptr 1 0 0, J 0, J 2, J 0, J 0, .nils],
 [o0, o15, o0, o2, o3, o4, o5, o6, o4, o4, o7, o8, o0, o9, o9, o9, o10, o11, o0, o9, o9, o9, o10, o4, o12, o13, o14, o16, o17, o13, o18, o19, o20, o13],
 [.agg [J 0, J 1], J 0],
 [o0, o21, o0, o2, o3, o4, o22, o6, o4, o4, o7, o8, o0, o9, o9, o23, o10, o11, o0, o9, o9, o9, o10, o24, o25, o13, o14, o16, o17, o13, o26, o19, o20, o13, o27, o28, o4, o29, o30, o31, o32, o33, o34])
def rw11_1 : Row := ([.ptr 1 0 0, J 0, J 2, J 0, J 0, .nils],
 [o0, o21, o0, o2, o3, o4, o22, o6, o4, o4, o7, o8, o0, o9, o9, o23, o10, o11, o0, o9, o9, o9, o10, o24, o25, o13, o14, o16, o17, o13, o26, o19, o20, o13, o27, o28, o4, o29, o30, o31, o32, o33, o34],
 [.agg [J 1, J 1], J 0],
 [o0, o35, o0, o2, o3, o4, o36, o6, o4, o4, o7, o8, o0, o9, o9, o37, o10, o11, o0, o9, o9, o9, o10, o38, o39, o13, o14, o16, o17, o13, o40, o19, o20, o13, o27, o28, o4, o41, o30, o31, o32, o33, o42, o43, o44, o4, o45, o46, o32, o33])
def rw11_2 : Row := ([.ptr 1 0 0, J 0, J 2, J 0, J 0, .nils],
 [o0, o35, o0, o2, o3, o4, o36, o6, o4, o4, o7, o8, o0, o9, o9, o37, o10, o11, o0, o9, o9, o9, o10, o38, o39, o13, o14, o16, o17, o13, o40, o19, o20, o13, o27, o28, o4, o41, o30, o31, o32, o33, o42, o43, o44, o4, o45, o46, o32, o33],
 [.agg [J 2, J 1], J 0],
 [o0, o47, o0, o2, o3, o4, o48, o6, o4, o4, o7, o8, o0, o9, o9, o49, o10, o11, o0, o9, o9, o9, o10, o50, o51, o13, o14, o16, o17, o13, o52, o19, o20, o13, o27, o28, o4, o53, o30, o31, o32, o33, o54, o43, o44, o4, o45, o46, o32, o33, o55, o56, o4, o57, o58, o32, o33])
def rw11_3 : Row := ([.ptr 1 0 0, J 0, J 2, J 0, J 0, .nils],
 [o0, o47, o0, o2, o3, o4, o48, o6, o4, o4, o7, o8, o0, o9, o9, o49, o10, o11, o0, o9, o9, o9, o10, o50, o51, o13, o14, o16, o17, o13, o52, o19, o20, o13, o27, o28, o4, o53, o30, o31, o32, o33, o54, o43, o44, o4, o45, o46, o32, o33, o55, o56, o4, o57, o58, o32, o33],
 [.agg [J 3, J 1], J 0],
 [o0, o59, o0, o2, o3, o4, o60, o6, o4, o4, o7, o8, o0, o9, o9, o61, o10, o11, o0, o9, o9, o9, o10, o62, o63, o13, o14, o16, o17, o13, o64, o19, o20, o13, o27, o28, o4, o65, o30, o31, o32, o33, o66, o43, o44, o4, o45, o46, o32, o33, o55, o56, o4, o57, o58, o32, o33, o67, o68, o4, o69, o70, o32, o33])
def rw11_4 : Row := ([.ptr 1 0 0, J 0, J 2, J 0, J 0, .nils],
 [o0, o59, o0, o2, o3, o4, o60, o6, o4, o4, o7, o8, o0, o9, o9, o61, o10, o11, o0, o9, o9, o9, o10, o62, o63, o13, o14, o16, o17, o13, o64, o19, o20, o13, o27, o28, o4, o65, o30, o31, o32, o33, o66, o43, o44, o4, o45, o46, o32, o33, o55, o56, o4, o57, o58, o32, o33, o67, o68, o4, o69, o70, o32, o33],
 [.agg [J 4, J 1], J 0],
 [o0, o71, o0, o2, o3, o4, o72, o6, o4, o4, o7, o8, o0, o9, o9, o73, o10, o11, o0, o9, o9, o9, o10, o74, o75, o13, o14, o16, o17, o13, o76, o19, o20, o13, o27, o28, o4, o77, o30, o31, o32, o33, o78, o43, o44, o4, o45, o46, o32, o33, o55, o56, o4, o57, o58, o32, o33, o67, o68, o4, o69, o70, o32, o33, o79, o80, o4, o81, o82, o32, o33])
def rw342_0 : Row := ([.agg [.str (ByteArray.mk #[109]), .sl 0 0 0 1 4 none], .ptr 2 0 0],
 [o83, o13, o84, o32],
 [.agg [J 1, J 0, J 0, .cplx .f64 0 0, .str (ByteArray.mk #[]), J 0, J 0, .nils, J 0, J 0, .cplx .f64 0 0, .str (ByteArray.mk #[]), J 0, J 0, .nils, .nils, J 0, J 0, J 0, .nils], J 1, J 0],
 [o83, o13, o85, o32, o32])
def rw134_0 : Row := ([.ptr 0 0 0],
 [o10],
 [.nils],
 [o10])

end
end Go.Proofs.YtgipaccfnlklcaaGreat
