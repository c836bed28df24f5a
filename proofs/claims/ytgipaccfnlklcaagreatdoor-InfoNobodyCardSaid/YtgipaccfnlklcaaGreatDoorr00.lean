/- What was played ahead: objects and rows. -/
import Derived.Test.YtgipaccfnlklcaaGreatDoorh3
set_option linter.unusedVariables false
set_option maxRecDepth 100000
namespace Go.Proofs.YtgipaccfnlklcaaGreatDoor
noncomputable section
open Go.L

def J (n : Int) : V := .int .i64 n
def o0 : O := O.cells 0 ([.nils, .nils, .nilp, .nilp, .nilp, .nils, .nilm, J 0, J 0, .nils, .nilp, .nils, J 0, .nils])
def o1 : O := O.cells 0 ([J 0, J 1, J 2])
def o2 : O := O.cells 0 ([.sl 2 0 0 3 1 none, .nils, .ptr 3 0 0, .ptr 6 0 0, .ptr 7 0 0, .sl 10 1 0 2 4 none, .map 23, J 0, J 1, .nils, .ptr 24 0 0, .nils, J 0, .nils])
def o3 : O := O.cells 0 ([.sl 4 0 0 256 3 (some 256), .map 5])
def o4 : O := O.cells 0 ((repeatC 256 [J 0, .bool false, .str (ByteArray.mk #[])]))
def o5 : O := O.map 0 [] []
def o6 : O := O.cells 0 ([J 2] ++ (List.replicate 48 (J 0)))
def o7 : O := O.cells 0 ([.map 8, .map 9])
def o8 : O := O.cells 1 ([.ptr 11 0 0, .ptr 16 0 0, J 0, J 0, .ptr 17 0 0, .ptr 22 0 0, J 0, J 0])
def o9 : O := O.cells 0 ([.sl 12 0 0 3 1 none, J 0, .ptr 13 0 0, .ptr 14 0 0, .ptr 15 0 0])
def o10 : O := O.cells 0 ([J 64, .nils])
def o11 : O := O.cells 0 ([.bool true, J 0, J 0] ++ (List.replicate 257 (.nils)))
def o12 : O := O.cells 0 ([.sl 18 0 0 3 1 none, J 0, .ptr 19 0 0, .ptr 20 0 0, .ptr 21 0 0])
def o13 : O := O.cells 0 ([J 4096, .nils] ++ (List.replicate 34 (J 0)))
def o14 : O := O.cells 0 ([J 25, J 0, J 0, J 0, J 0, .cplx .f64 0 0, .str (ByteArray.mk #[]), J 0, J 0, .nils, .nils])
def o15 : O := O.cells 0 ([.str (ByteArray.mk #[102]), J 0, J 0, .sl 25 0 0 1 11 (some 1)])
def o16 : O := O.cells 0 ([.sl 2 0 0 3 1 none, .sl 27 0 0 1 2 none, .ptr 3 0 0, .ptr 6 0 0, .ptr 7 0 0, .sl 10 1 0 2 4 none, .map 23, J 0, J 1, .nils, .ptr 24 0 0, .sl 30 0 0 1 29 none, J 0, .nils])
def o17 : O := O.cells 0 ([.str (ByteArray.mk #[109]), .sl 28 0 0 1 4 none])
def o18 : O := O.cells 0 ([.str (ByteArray.mk #[102]), J 0, J 0, .sl 29 0 0 1 11 none])
def o19 : O := O.cells 0 ([J 1, J 0, J 0, J 0, J 0, J 0, J 0, .nils, J 0, .bool false, .nils, .nils, J 0, J 0, J 0, J 0, J 0, J 0, J 0, J 0, .cplx .f64 0 0, .str (ByteArray.mk #[]), J 0, J 0, .nils, J 0, J 0, .nils, .sl 31 0 0 1 2 (some 1)])
def o20 : O := O.cells 0 ([.str (ByteArray.mk #[109]), .sl 32 0 0 1 4 none])
def o21 : O := O.cells 0 ([.str (ByteArray.mk #[102]), J 0, J 0, .sl 33 0 0 1 11 none])
def o22 : O := O.cells 0 ([.sl 2 0 0 3 1 none, .sl 27 0 0 1 2 none, .ptr 34 0 0, .ptr 6 0 0, .ptr 7 0 0, .sl 10 1 0 2 4 none, .map 23, J 0, J 1, .nils, .ptr 24 0 0, .sl 30 1 0 2 29 none, J 0, .nils])
def o23 : O := O.cells 0 ([J 2, J 0, J 1] ++ (List.replicate 46 (J 0)))
def o24 : O := O.cells 0 ([J 64, .sl 37 0 0 1 3 none])
def o25 : O := O.map 1 [0] [(J 0, .ptr 38 0 0)]
def o26 : O := O.cells 0 ([J 4096, .sl 42 0 0 1 6 none, J 0, J 0, J 1, J 0, J 0, J 0, J 0, J 0, J 0, J 0, J 0, J 0, J 0, J 1, J 0, J 0, J 0, J 0, J 0, J 0, J 0, J 0, J 0, J 0, J 0, J 0, J 0, J 0, J 0, J 0, J 0, J 0, J 0, J 0])
def o27 : O := O.cells 1 ([J 1, J 0, J 0, J 0, J 0, J 0, J 0, .nils, J 0, .bool false, .nils, .nils, J 0, J 0, J 0, J 0, J 0, J 0, J 0, J 0, .cplx .f64 0 0, .str (ByteArray.mk #[]), J 0, J 0, .nils, J 0, J 0, .nils, .sl 31 0 0 1 2 (some 1), J 2, J 0, J 1, J 0, J 0, J 0, J 1, .nils, J 0, .bool false, .nils, .nils, J 0, J 0, J 0, J 0, J 0, J 0, J 0, J 0, .cplx .f64 0 0, .str (ByteArray.mk #[]), J 0, J 0, .nils, J 0, J 0, .nils, .nils])
def o28 : O := O.cells 0 ([.sl 35 0 0 256 3 none, .map 36])
def o29 : O := O.cells 0 ([J 1, .bool true] ++ (repeatC 255 [.str (ByteArray.mk #[]), J 0, .bool false]) ++ ([.str (ByteArray.mk #[])]))
def o30 : O := O.cells 0 ([J 0, J 1, .bool false])
def o31 : O := O.cells 0 ([J 0, J 1, J 1, J 0, J 0, .ptr 39 0 0, .ptr 41 0 0, J 1, .bool false, .bool false, J 0, J (-1)])
def o32 : O := O.cells 0 ([.bool true, .sl 40 0 0 1 4 none, .nils])
def o33 : O := O.cells 0 ([J 0, J 0, .nils, J 0])
def o34 : O := O.cells 0 ([.bool true, .nils, .nils, J 0, J 0])
def o35 : O := O.cells 0 ([J 1, J 0, J 0, J 1, J 1, J 0])
def o36 : O := O.cells 0 ([.sl 2 0 0 3 1 none, .sl 27 0 0 1 2 none, .ptr 43 0 0, .ptr 6 0 0, .ptr 7 0 0, .sl 10 1 0 2 4 none, .map 23, J 0, J 1, .nils, .ptr 24 0 0, .sl 30 2 0 3 29 none, J 0, .nils])
def o37 : O := O.cells 0 ([J 2, J 0, J 2] ++ (List.replicate 46 (J 0)))
def o38 : O := O.cells 0 ([J 64, .sl 37 1 0 2 3 none])
def o39 : O := O.map 2 [0, 1] [(J 0, .ptr 38 0 0), (J 1, .ptr 46 0 0)]
def o40 : O := O.cells 0 ([J 4096, .sl 42 1 0 2 6 none, J 0, J 0, J 2, J 0, J 0, J 0, J 0, J 0, J 0, J 0, J 0, J 0, J 0, J 2, J 0, J 0, J 0, J 0, J 0, J 0, J 0, J 0, J 0, J 0, J 0, J 0, J 0, J 0, J 0, J 0, J 0, J 0, J 0, J 0])
def o41 : O := O.cells 2 ([J 1, J 0, J 0, J 0, J 0, J 0, J 0, .nils, J 0, .bool false, .nils, .nils, J 0, J 0, J 0, J 0, J 0, J 0, J 0, J 0, .cplx .f64 0 0, .str (ByteArray.mk #[]), J 0, J 0, .nils, J 0, J 0, .nils, .sl 31 0 0 1 2 (some 1), J 2, J 0, J 1, J 0, J 0, J 0, J 1, .nils, J 0, .bool false, .nils, .nils, J 0, J 0, J 0, J 0, J 0, J 0, J 0, J 0, .cplx .f64 0 0, .str (ByteArray.mk #[]), J 0, J 0, .nils, J 0, J 0, .nils, .nils, J 2, J 0, J 1, J 0, J 0, J 1, J 1, .nils, J 0, .bool false, .nils, .nils, J 0, J 0, J 0, J 0, J 0, J 0, J 0, J 0, .cplx .f64 0 0, .str (ByteArray.mk #[]), J 0, J 0, .nils, J 0, J 0, .nils, .nils])
def o42 : O := O.cells 1 ([J 0, J 1, .bool false, J 1, J 1, .bool false])
def o43 : O := O.cells 1 ([J 1, J 0, J 0, J 1, J 1, J 0, J 1, J 0, J 1, J 1, J 1, J 0])
def o44 : O := O.cells 0 ([.sl 44 0 0 256 3 none, .map 45])
def o45 : O := O.cells 0 ([J 1, .bool true, .str (ByteArray.mk #[]), J 1, .bool true] ++ (repeatC 254 [.str (ByteArray.mk #[]), J 0, .bool false]) ++ ([.str (ByteArray.mk #[])]))
def o46 : O := O.cells 0 ([J 1, J 1, J 1, J 0, J 0, .ptr 47 0 0, .ptr 49 0 0, J 1, .bool false, .bool false, J 0, J (-1)])
def o47 : O := O.cells 0 ([.bool true, .sl 48 0 0 1 4 none, .nils])
def o48 : O := O.cells 0 ([.sl 2 0 0 3 1 none, .sl 27 0 0 1 2 none, .ptr 50 0 0, .ptr 6 0 0, .ptr 7 0 0, .sl 10 1 0 2 4 none, .map 23, J 0, J 1, .nils, .ptr 24 0 0, .sl 30 3 0 4 29 none, J 0, .nils])
def o49 : O := O.cells 0 ([J 2, J 0, J 3] ++ (List.replicate 46 (J 0)))
def o50 : O := O.cells 0 ([J 64, .sl 37 2 0 3 3 none])
def o51 : O := O.map 3 [0, 1, 2] [(J 0, .ptr 38 0 0), (J 1, .ptr 46 0 0), (J 2, .ptr 53 0 0)]
def o52 : O := O.cells 0 ([J 4096, .sl 42 2 0 3 6 none, J 0, J 0, J 3, J 0, J 0, J 0, J 0, J 0, J 0, J 0, J 0, J 0, J 0, J 3, J 0, J 0, J 0, J 0, J 0, J 0, J 0, J 0, J 0, J 0, J 0, J 0, J 0, J 0, J 0, J 0, J 0, J 0, J 0, J 0])
def o53 : O := O.cells 3 ([J 1, J 0, J 0, J 0, J 0, J 0, J 0, .nils, J 0, .bool false, .nils, .nils, J 0, J 0, J 0, J 0, J 0, J 0, J 0, J 0, .cplx .f64 0 0, .str (ByteArray.mk #[]), J 0, J 0, .nils, J 0, J 0, .nils, .sl 31 0 0 1 2 (some 1), J 2, J 0, J 1, J 0, J 0, J 0, J 1, .nils, J 0, .bool false, .nils, .nils, J 0, J 0, J 0, J 0, J 0, J 0, J 0, J 0, .cplx .f64 0 0, .str (ByteArray.mk #[]), J 0, J 0, .nils, J 0, J 0, .nils, .nils, J 2, J 0, J 1, J 0, J 0, J 1, J 1, .nils, J 0, .bool false, .nils, .nils, J 0, J 0, J 0, J 0, J 0, J 0, J 0, J 0, .cplx .f64 0 0, .str (ByteArray.mk #[]), J 0, J 0, .nils, J 0, J 0, .nils, .nils, J 2, J 0, J 1, J 0, J 0, J 2, J 1, .nils, J 0, .bool false, .nils, .nils, J 0, J 0, J 0, J 0, J 0, J 0, J 0, J 0, .cplx .f64 0 0, .str (ByteArray.mk #[]), J 0, J 0, .nils, J 0, J 0, .nils, .nils])
def o54 : O := O.cells 2 ([J 0, J 1, .bool false, J 1, J 1, .bool false, J 2, J 1, .bool false])
def o55 : O := O.cells 2 ([J 1, J 0, J 0, J 1, J 1, J 0, J 1, J 0, J 1, J 1, J 1, J 0, J 1, J 0, J 2, J 1, J 1, J 0])
def o56 : O := O.cells 0 ([.sl 51 0 0 256 3 none, .map 52])
def o57 : O := O.cells 0 ([J 1, .bool true, .str (ByteArray.mk #[]), J 1, .bool true, .str (ByteArray.mk #[]), J 1, .bool true] ++ (repeatC 253 [.str (ByteArray.mk #[]), J 0, .bool false]) ++ ([.str (ByteArray.mk #[])]))
def o58 : O := O.cells 0 ([J 2, J 1, J 1, J 0, J 0, .ptr 54 0 0, .ptr 56 0 0, J 1, .bool false, .bool false, J 0, J (-1)])
def o59 : O := O.cells 0 ([.bool true, .sl 55 0 0 1 4 none, .nils])
def o60 : O := O.cells 0 ([.sl 2 0 0 3 1 none, .sl 27 0 0 1 2 none, .ptr 57 0 0, .ptr 6 0 0, .ptr 7 0 0, .sl 10 1 0 2 4 none, .map 23, J 0, J 1, .nils, .ptr 24 0 0, .sl 30 4 0 5 29 none, J 0, .nils])
def o61 : O := O.cells 0 ([J 2, J 0, J 3, J 0, J 0, J 1] ++ (List.replicate 43 (J 0)))
def o62 : O := O.cells 0 ([J 64, .sl 60 0 0 1 3 none])
def o63 : O := O.map 4 [0, 1, 2, 3] [(J 0, .ptr 38 0 0), (J 1, .ptr 46 0 0), (J 2, .ptr 53 0 0), (J 3, .ptr 61 0 0)]
def o64 : O := O.cells 0 ([J 4096, .sl 42 3 0 4 6 none, J 0, J 0, J 4, J 0, J 0, J 0, J 0, J 0, J 0, J 0, J 0, J 0, J 0, J 4, J 0, J 0, J 0, J 0, J 0, J 0, J 0, J 0, J 0, J 0, J 0, J 0, J 0, J 0, J 0, J 0, J 0, J 0, J 0, J 0])
def o65 : O := O.cells 4 ([J 1, J 0, J 0, J 0, J 0, J 0, J 0, .nils, J 0, .bool false, .nils, .nils, J 0, J 0, J 0, J 0, J 0, J 0, J 0, J 0, .cplx .f64 0 0, .str (ByteArray.mk #[]), J 0, J 0, .nils, J 0, J 0, .nils, .sl 31 0 0 1 2 (some 1), J 2, J 0, J 1, J 0, J 0, J 0, J 1, .nils, J 0, .bool false, .nils, .nils, J 0, J 0, J 0, J 0, J 0, J 0, J 0, J 0, .cplx .f64 0 0, .str (ByteArray.mk #[]), J 0, J 0, .nils, J 0, J 0, .nils, .nils, J 2, J 0, J 1, J 0, J 0, J 1, J 1, .nils, J 0, .bool false, .nils, .nils, J 0, J 0, J 0, J 0, J 0, J 0, J 0, J 0, .cplx .f64 0 0, .str (ByteArray.mk #[]), J 0, J 0, .nils, J 0, J 0, .nils, .nils, J 2, J 0, J 1, J 0, J 0, J 2, J 1, .nils, J 0, .bool false, .nils, .nils, J 0, J 0, J 0, J 0, J 0, J 0, J 0, J 0, .cplx .f64 0 0, .str (ByteArray.mk #[]), J 0, J 0, .nils, J 0, J 0, .nils, .nils, J 2, J 1, J 1, J 0, J 0, J 3, J 1, .nils, J 0, .bool false, .nils, .nils, J 0, J 0, J 0, J 0, J 0, J 0, J 0, J 0, .cplx .f64 0 0, .str (ByteArray.mk #[]), J 0, J 0, .nils, J 0, J 0, .nils, .nils])
def o66 : O := O.cells 3 ([J 1, J 0, J 0, J 1, J 1, J 0, J 1, J 0, J 1, J 1, J 1, J 0, J 1, J 0, J 2, J 1, J 1, J 0, J 1, J 1, J 3, J 1, J 1, J 0])
def o67 : O := O.cells 0 ([.sl 58 0 0 256 3 none, .map 59])
def o68 : O := O.cells 0 ([J 1, .bool true, .str (ByteArray.mk #[]), J 1, .bool true, .str (ByteArray.mk #[]), J 1, .bool true, .str (ByteArray.mk #[]), J 1, .bool true] ++ (repeatC 252 [.str (ByteArray.mk #[]), J 0, .bool false]) ++ ([.str (ByteArray.mk #[])]))
def o69 : O := O.cells 0 ([J 3, J 1, .bool false])
def o70 : O := O.cells 0 ([J 3, J 1, J 1, J 1, J 0, .ptr 62 0 0, .ptr 64 0 0, J 1, .bool false, .bool false, J 0, J (-1)])
def o71 : O := O.cells 0 ([.bool true, .sl 63 0 0 1 4 none, .nils])
def o72 : O := O.cells 0 ([.sl 1 0 0 3 1 none, .sl 2 0 0 1 2 none, .ptr 5 0 0, .ptr 8 0 0, .ptr 9 0 0, .sl 12 1 0 2 4 none, .map 27, J 0, J 1, .nils, .ptr 44 0 0, .sl 46 4 0 5 29 none, J 0, .nils])
def o73 : O := O.cells 0 ([.str (ByteArray.mk #[109]), .sl 3 0 0 1 4 none])
def o74 : O := O.cells 0 ([.str (ByteArray.mk #[102]), J 0, J 0, .sl 4 0 0 1 11 none])
def o75 : O := O.cells 0 ([.sl 6 0 0 256 3 none, .map 7])
def o76 : O := O.cells 0 ([.map 10, .map 11])
def o77 : O := O.cells 1 ([.ptr 13 0 0, .ptr 19 0 0, J 0, J 0, .ptr 20 0 0, .ptr 26 0 0, J 0, J 0])
def o78 : O := O.cells 0 ([.sl 14 0 0 3 1 none, J 0, .ptr 15 0 0, .ptr 16 0 0, .ptr 18 0 0])
def o79 : O := O.cells 0 ([J 64, .sl 17 2 0 3 3 none])
def o80 : O := O.cells 0 ([.sl 21 0 0 3 1 none, J 0, .ptr 22 0 0, .ptr 23 0 0, .ptr 25 0 0])
def o81 : O := O.cells 0 ([J 64, .sl 24 0 0 1 3 none])
def o82 : O := O.map 4 [0, 1, 2, 3] [(J 0, .ptr 28 0 0), (J 1, .ptr 32 0 0), (J 2, .ptr 36 0 0), (J 3, .ptr 40 0 0)]
def o83 : O := O.cells 0 ([J 0, J 1, J 1, J 0, J 0, .ptr 29 0 0, .ptr 31 0 0, J 1, .bool false, .bool false, J 0, J (-1)])
def o84 : O := O.cells 0 ([.bool true, .sl 30 0 0 1 4 none, .nils])
def o85 : O := O.cells 0 ([J 1, J 1, J 1, J 0, J 0, .ptr 33 0 0, .ptr 35 0 0, J 1, .bool false, .bool false, J 0, J (-1)])
def o86 : O := O.cells 0 ([.bool true, .sl 34 0 0 1 4 none, .nils])
def o87 : O := O.cells 0 ([J 2, J 1, J 1, J 0, J 0, .ptr 37 0 0, .ptr 39 0 0, J 1, .bool false, .bool false, J 0, J (-1)])
def o88 : O := O.cells 0 ([.bool true, .sl 38 0 0 1 4 none, .nils])
def o89 : O := O.cells 0 ([J 3, J 1, J 1, J 1, J 0, .ptr 41 0 0, .ptr 43 0 0, J 1, .bool false, .bool false, J 0, J (-1)])
def o90 : O := O.cells 0 ([.bool true, .sl 42 0 0 1 4 none, .nils])
def o91 : O := O.cells 0 ([J 4096, .sl 45 3 0 4 6 none, J 0, J 0, J 4, J 0, J 0, J 0, J 0, J 0, J 0, J 0, J 0, J 0, J 0, J 4, J 0, J 0, J 0, J 0, J 0, J 0, J 0, J 0, J 0, J 0, J 0, J 0, J 0, J 0, J 0, J 0, J 0, J 0, J 0, J 0])
def o92 : O := O.cells 4 ([J 1, J 0, J 0, J 0, J 0, J 0, J 0, .nils, J 0, .bool false, .nils, .nils, J 0, J 0, J 0, J 0, J 0, J 0, J 0, J 0, .cplx .f64 0 0, .str (ByteArray.mk #[]), J 0, J 0, .nils, J 0, J 0, .nils, .sl 47 0 0 1 2 (some 1), J 2, J 0, J 1, J 0, J 0, J 0, J 1, .nils, J 0, .bool false, .nils, .nils, J 0, J 0, J 0, J 0, J 0, J 0, J 0, J 0, .cplx .f64 0 0, .str (ByteArray.mk #[]), J 0, J 0, .nils, J 0, J 0, .nils, .nils, J 2, J 0, J 1, J 0, J 0, J 1, J 1, .nils, J 0, .bool false, .nils, .nils, J 0, J 0, J 0, J 0, J 0, J 0, J 0, J 0, .cplx .f64 0 0, .str (ByteArray.mk #[]), J 0, J 0, .nils, J 0, J 0, .nils, .nils, J 2, J 0, J 1, J 0, J 0, J 2, J 1, .nils, J 0, .bool false, .nils, .nils, J 0, J 0, J 0, J 0, J 0, J 0, J 0, J 0, .cplx .f64 0 0, .str (ByteArray.mk #[]), J 0, J 0, .nils, J 0, J 0, .nils, .nils, J 2, J 1, J 1, J 0, J 0, J 3, J 1, .nils, J 0, .bool false, .nils, .nils, J 0, J 0, J 0, J 0, J 0, J 0, J 0, J 0, .cplx .f64 0 0, .str (ByteArray.mk #[]), J 0, J 0, .nils, J 0, J 0, .nils, .nils])
def o93 : O := O.cells 0 ([.str (ByteArray.mk #[109]), .sl 48 0 0 1 4 none])
def o94 : O := O.cells 0 ([.str (ByteArray.mk #[102]), J 0, J 0, .sl 49 0 0 1 11 none])
def o95 : O := O.cells 0 ([.str (ByteArray.mk #[109]), .sl 52 0 0 1 4 none])
def o96 : O := O.cells 0 ([.str (ByteArray.mk #[102]), J 0, J 0, .sl 53 0 0 1 11 none])
def o97 : O := O.cells 3 ([J 0, J 1, .str (ByteArray.mk #[]), J 1, J 0, J 1, J 0, .bool false, .bool false, J 0, J 0, J 0, .sl 55 0 0 1 4 none, .nils, .nils, .nils, J 0, J 0, J (-1), J 1, J 1, .str (ByteArray.mk #[]), J 1, J 0, J 1, J 0, .bool false, .bool false, J 0, J 0, J 0, .sl 56 0 0 1 4 none, .nils, .nils, .nils, J 0, J 0, J (-1), J 2, J 1, .str (ByteArray.mk #[]), J 1, J 0, J 1, J 0, .bool false, .bool false, J 0, J 0, J 0, .sl 57 0 0 1 4 none, .nils, .nils, .nils, J 0, J 0, J (-1), J 3, J 1, .str (ByteArray.mk #[]), J 1, J 1, J 1, J 0, .bool false, .bool false, J 0, J 0, J 0, .sl 58 0 0 1 4 none, .nils, .nils, .nils, J 0, J 0, J (-1)])
def o98 : O := O.cells 255 ([J 1, J 1, J 1, J 1] ++ (List.replicate 252 (J 0)))
def o99 : O := O.cells 1 ([.sl 61 0 0 0 3 (some 0), .sl 62 0 0 3 3 (some 3), .sl 63 0 0 0 3 (some 0), .sl 64 0 0 0 3 (some 0), .sl 65 0 0 1 3 (some 1), .sl 66 0 0 0 3 (some 0)])
def o100 : O := O.cells 0 ([])
def o101 : O := O.cells 0 ([J 0, J 1, .bool false, J 1, J 1, .bool false, J 2, J 1, .bool false])
def o102 : O := O.cells 1 ([J 0, J 0])
def o103 : O := O.cells 1 ([.nils, .nils])
def o104 : O := O.cells 0 ([.str (ByteArray.mk #[109]), .sl 2 0 0 1 4 none])
def o105 : O := O.cells 0 ([.str (ByteArray.mk #[102]), J 0, J 0, .sl 3 0 0 1 11 none])
def o106 : O := O.cells 3 ([J 0, J 1, .str (ByteArray.mk #[]), J 1, J 0, J 1, J 0, .bool false, .bool false, J 0, J 0, J 0, .sl 5 0 0 1 4 none, .nils, .nils, .nils, J 0, J 0, J (-1), J 1, J 1, .str (ByteArray.mk #[]), J 1, J 0, J 1, J 0, .bool false, .bool false, J 0, J 0, J 0, .sl 6 0 0 1 4 none, .nils, .nils, .nils, J 0, J 0, J (-1), J 2, J 1, .str (ByteArray.mk #[]), J 1, J 0, J 1, J 0, .bool false, .bool false, J 0, J 0, J 0, .sl 7 0 0 1 4 none, .nils, .nils, .nils, J 0, J 0, J (-1), J 3, J 1, .str (ByteArray.mk #[]), J 1, J 1, J 1, J 0, .bool false, .bool false, J 0, J 0, J 0, .sl 8 0 0 1 4 none, .nils, .nils, .nils, J 0, J 0, J (-1)])
def o107 : O := O.cells 1 ([.sl 11 0 0 0 3 (some 0), .sl 12 0 0 3 3 (some 3), .sl 13 0 0 0 3 (some 0), .sl 14 0 0 0 3 (some 0), .sl 15 0 0 1 3 (some 1), .sl 16 0 0 0 3 (some 0)])
def o108 : O := O.map 3 [0, 1, 2] [(.agg [J 0, J 1], J 1), (.agg [J 1, J 1], J 1), (.agg [J 2, J 1], J 1)]
def o109 : O := O.cells 0 ([.sl 22 0 0 3 1 none, J 0, .ptr 24 0 0, .ptr 25 0 0, .ptr 27 0 0])
def o110 : O := O.cells 0 ([J 64, .sl 26 0 0 3 3 none])
def o111 : O := O.map 1 [0] [(.agg [J 3, J 1], J 1)]
def o112 : O := O.cells 0 ([.sl 29 0 0 3 1 none, J 0, .ptr 31 0 0, .ptr 32 0 0, .ptr 34 0 0])
def o113 : O := O.cells 0 ([J 64, .sl 33 0 0 1 3 none])
def o114 : O := O.cells 0 ([J 1])
def o115 : O := O.cells 0 ([J 5, J 0, .cplx .f64 0 0, .str (ByteArray.mk #[109]), J 0, J 0, .nils])
def o116 : O := O.cells 0 ([J 5, J 0, .cplx .f64 0 0, .str (ByteArray.mk #[102]), J 0, J 0, .nils])
def o117 : O := O.cells 0 ([J 0])
def o118 : O := O.cells 0 ([.bool true])
def o119 : O := O.cells 0 ([.sl 47 0 0 3 1 none, .nils, .ptr 48 0 0, .ptr 51 0 0, .ptr 52 0 0, .sl 55 1 0 2 4 none, .map 68, J 0, J 1, .nils, .ptr 69 0 0, .nils, J 0, .nils])
def o120 : O := O.cells 0 ([.sl 49 0 0 256 3 (some 256), .map 50])
def o121 : O := O.cells 0 ([.map 53, .map 54])
def o122 : O := O.cells 1 ([.ptr 56 0 0, .ptr 61 0 0, J 0, J 0, .ptr 62 0 0, .ptr 67 0 0, J 0, J 0])
def o123 : O := O.cells 0 ([.sl 57 0 0 3 1 none, J 0, .ptr 58 0 0, .ptr 59 0 0, .ptr 60 0 0])
def o124 : O := O.cells 0 ([.sl 63 0 0 3 1 none, J 0, .ptr 64 0 0, .ptr 65 0 0, .ptr 66 0 0])
def rw20_0 : Row := ([J 2, .sl 0 0 0 3 1 (some 3)],
 [o1],
 [.ptr 1 0 0, J 0],
 [o1, o2, o1, o3, o4, o5, o6, o7, o5, o5, o8, o9, o1, o10, o10, o10, o11, o12, o1, o10, o10, o10, o11, o5, o13])
def rw20_1 : Row := ([J 2, .sl 0 0 0 3 1 none],
 [o1, o104, o105, o14, o106, o33, o33, o33, o33, o98, o107, o100, o101, o100, o100, o69, o100, o102, o102, o102, o103, o108, o1, o109, o10, o110, o101, o10, o111, o1, o112, o10, o113, o69, o10, o114, o114, o115, o114, o114, o116, o117, o117, o118, o117, o117],
 [.ptr 46 0 0, J 0],
 [o1, o104, o105, o14, o106, o33, o33, o33, o33, o98, o107, o100, o101, o100, o100, o69, o100, o102, o102, o102, o103, o108, o1, o109, o10, o110, o101, o10, o111, o1, o112, o10, o113, o69, o10, o114, o114, o115, o114, o114, o116, o117, o117, o118, o117, o117, o119, o1, o120, o4, o5, o6, o121, o5, o5, o122, o123, o1, o10, o10, o10, o11, o124, o1, o10, o10, o10, o11, o5, o13])
def rw21_0 : Row := ([.ptr 1 0 0, .agg [.str (ByteArray.mk #[109]), .sl 26 0 0 1 4 (some 1)]],
 [o1, o2, o1, o3, o4, o5, o6, o7, o5, o5, o8, o9, o1, o10, o10, o10, o11, o12, o1, o10, o10, o10, o11, o5, o13, o14, o15],
 [J 0, J 0],
 [o1, o16, o1, o3, o4, o5, o6, o7, o5, o5, o8, o9, o1, o10, o10, o10, o11, o12, o1, o10, o10, o10, o11, o5, o13, o14, o15, o17, o18, o14, o19, o20, o21, o14])
def rw22_0 : Row := ([.ptr 1 0 0, J 0, J 1, J 0, J 0, .nils],
 [o1, o16, o1, o3, o4, o5, o6, o7, o5, o5, o8, o9, o1, o10, o10, o10, o11, o12, o1, o10, o10, o10, o11, o5, o13, o14, o15, o17, o18, o14, o19, o20, o21, o14],
 [.agg [J 0, J 1], J 0],
 [o1, o22, o1, o3, o4, o5, o23, o7, o5, o5, o8, o9, o1, o10, o24, o10, o11, o12, o1, o10, o10, o10, o11, o25, o26, o14, o15, o17, o18, o14, o27, o20, o21, o14, o28, o29, o5, o30, o31, o32, o33, o34, o35])
def rw22_1 : Row := ([.ptr 1 0 0, J 0, J 1, J 0, J 0, .nils],
 [o1, o22, o1, o3, o4, o5, o23, o7, o5, o5, o8, o9, o1, o10, o24, o10, o11, o12, o1, o10, o10, o10, o11, o25, o26, o14, o15, o17, o18, o14, o27, o20, o21, o14, o28, o29, o5, o30, o31, o32, o33, o34, o35],
 [.agg [J 1, J 1], J 0],
 [o1, o36, o1, o3, o4, o5, o37, o7, o5, o5, o8, o9, o1, o10, o38, o10, o11, o12, o1, o10, o10, o10, o11, o39, o40, o14, o15, o17, o18, o14, o41, o20, o21, o14, o28, o29, o5, o42, o31, o32, o33, o34, o43, o44, o45, o5, o46, o47, o33, o34])
def rw22_2 : Row := ([.ptr 1 0 0, J 0, J 1, J 0, J 0, .nils],
 [o1, o36, o1, o3, o4, o5, o37, o7, o5, o5, o8, o9, o1, o10, o38, o10, o11, o12, o1, o10, o10, o10, o11, o39, o40, o14, o15, o17, o18, o14, o41, o20, o21, o14, o28, o29, o5, o42, o31, o32, o33, o34, o43, o44, o45, o5, o46, o47, o33, o34],
 [.agg [J 2, J 1], J 0],
 [o1, o48, o1, o3, o4, o5, o49, o7, o5, o5, o8, o9, o1, o10, o50, o10, o11, o12, o1, o10, o10, o10, o11, o51, o52, o14, o15, o17, o18, o14, o53, o20, o21, o14, o28, o29, o5, o54, o31, o32, o33, o34, o55, o44, o45, o5, o46, o47, o33, o34, o56, o57, o5, o58, o59, o33, o34])
def rw22_3 : Row := ([.ptr 1 0 0, J 1, J 1, J 0, J 0, .nils],
 [o1, o48, o1, o3, o4, o5, o49, o7, o5, o5, o8, o9, o1, o10, o50, o10, o11, o12, o1, o10, o10, o10, o11, o51, o52, o14, o15, o17, o18, o14, o53, o20, o21, o14, o28, o29, o5, o54, o31, o32, o33, o34, o55, o44, o45, o5, o46, o47, o33, o34, o56, o57, o5, o58, o59, o33, o34],
 [.agg [J 3, J 1], J 0],
 [o1, o60, o1, o3, o4, o5, o61, o7, o5, o5, o8, o9, o1, o10, o50, o10, o11, o12, o1, o10, o62, o10, o11, o63, o64, o14, o15, o17, o18, o14, o65, o20, o21, o14, o28, o29, o5, o54, o31, o32, o33, o34, o66, o44, o45, o5, o46, o47, o33, o34, o56, o57, o5, o58, o59, o33, o34, o67, o68, o5, o69, o70, o71, o33, o34])
def rw5_0 : Row := ([.ptr 1 0 0, .agg [J 0, J 1]],
 [o1, o60, o1, o3, o4, o5, o61, o7, o5, o5, o8, o9, o1, o10, o50, o10, o11, o12, o1, o10, o62, o10, o11, o63, o64, o14, o15, o17, o18, o14, o65, o20, o21, o14, o28, o29, o5, o54, o31, o32, o33, o34, o66, o44, o45, o5, o46, o47, o33, o34, o56, o57, o5, o58, o59, o33, o34, o67, o68, o5, o69, o70, o71, o33, o34],
 [.str (ByteArray.mk #[60, 48, 46, 49, 62, 32, 45, 32, 114, 101, 97, 100, 121, 32, 110, 111, 114, 109, 97, 108, 32, 99, 111, 114, 101, 61, 48, 32, 109, 111, 100, 117, 108, 101, 61, 48, 32, 114, 101, 100, 115, 61, 48, 32, 109, 97, 105, 108, 61, 48, 32, 100, 101, 112, 116, 104, 61, 49, 10]), J 0],
 [o1, o60, o1, o3, o4, o5, o61, o7, o5, o5, o8, o9, o1, o10, o50, o10, o11, o12, o1, o10, o62, o10, o11, o63, o64, o14, o15, o17, o18, o14, o65, o20, o21, o14, o28, o29, o5, o54, o31, o32, o33, o34, o66, o44, o45, o5, o46, o47, o33, o34, o56, o57, o5, o58, o59, o33, o34, o67, o68, o5, o69, o70, o71, o33, o34])
def rw18_0 : Row := ([.nilp],
 [],
 [.agg [.nils, .nils, .nils, .nils, .nils, .nils, .nils, .nils, .nils, .nils, J 0, J 0, .nils]],
 [])
def rw18_1 : Row := ([.ptr 0 0 0],
 [o0],
 [.agg [.nils, .nils, .nils, .nils, .nils, .nils, .nils, .nils, .nils, .nils, J 0, J 0, .nils]],
 [o0])
def rw18_2 : Row := ([.ptr 0 0 0],
 [o72, o1, o73, o74, o14, o75, o68, o5, o61, o76, o5, o5, o77, o78, o1, o10, o79, o54, o10, o11, o80, o1, o10, o81, o69, o10, o11, o82, o83, o84, o33, o34, o85, o86, o33, o34, o87, o88, o33, o34, o89, o90, o33, o34, o91, o66, o92, o93, o94, o14],
 [.agg [.sl 50 0 0 3 1 none, .sl 51 0 0 1 2 none, .sl 54 3 0 4 19 none, .sl 59 255 0 256 1 none, .sl 60 1 0 2 3 none, .sl 67 1 0 2 1 none, .sl 68 1 0 2 1 none, .sl 69 1 0 2 1 none, .sl 70 1 0 2 1 none, .nils, J 0, J 1, .nils]],
 [o72, o1, o73, o74, o14, o75, o68, o5, o61, o76, o5, o5, o77, o78, o1, o10, o79, o54, o10, o11, o80, o1, o10, o81, o69, o10, o11, o82, o83, o84, o33, o34, o85, o86, o33, o34, o87, o88, o33, o34, o89, o90, o33, o34, o91, o66, o92, o93, o94, o14, o1, o95, o96, o14, o97, o33, o33, o33, o33, o98, o99, o100, o101, o100, o100, o69, o100, o102, o102, o102, o103])

end
end Go.Proofs.YtgipaccfnlklcaaGreatDoor
