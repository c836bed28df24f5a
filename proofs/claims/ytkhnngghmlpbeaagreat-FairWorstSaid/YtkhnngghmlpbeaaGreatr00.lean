/- What was played ahead: objects and rows. -/
import Derived.Test.YtkhnngghmlpbeaaGreatg5
set_option linter.unusedVariables false
set_option maxRecDepth 100000
namespace Go.Proofs.YtkhnngghmlpbeaaGreat
noncomputable section
open Go.L

def J (n : Int) : V := .int .i64 n
def o0 : O := O.cells 0 ([J 0, J 1, J 2])
def o1 : O := O.cells 0 ([.sl 2 0 0 3 1 none, .nils, J 256, .sl 3 1 0 256 1 (some 256), .sl 4 1 0 256 1 (some 256), .sl 5 1 0 256 1 (some 256), .sl 6 0 0 1 3 (some 1), .bool true, .nils, .sl 7 0 0 1 5 none, .sl 9 0 0 1 3 none, .sl 10 1 0 1 1 (some 1), .sl 11 1 0 1 1 (some 1), .nils, J 0, J 1, .nils, J 4096, .nils] ++ (List.replicate 33 (J 0)) ++ ([.nils, J 0, .nils]))
def o2 : O := O.cells 1 ((List.replicate 256 (J 0)))
def o3 : O := O.cells 1 ((List.replicate 256 (.bool false)))
def o4 : O := O.cells 1 ((List.replicate 256 (.str (ByteArray.mk #[]))))
def o5 : O := O.cells 0 ([J 0, J 0, J 0])
def o6 : O := O.cells 0 ([.sl 8 0 0 3 1 none, J 0, .nils, .nils, .nils])
def o7 : O := O.cells 0 ([.bool true, J 0, .nils])
def o8 : O := O.cells 1 ([J 0])
def o9 : O := O.cells 0 ([J 25, J 0, J 0, J 0, J 0, .cplx .f64 0 0, .str (ByteArray.mk #[]), J 0, J 0, .nils, .nils])
def o10 : O := O.cells 0 ([.str (ByteArray.mk #[102]), J 0, J 0, .sl 12 0 0 1 11 (some 1)])
def o11 : O := O.cells 0 ([.sl 2 0 0 3 1 none, .sl 14 0 0 1 2 none, J 256, .sl 3 1 0 256 1 (some 256), .sl 4 1 0 256 1 (some 256), .sl 5 1 0 256 1 (some 256), .sl 6 0 0 1 3 (some 1), .bool true, .nils, .sl 7 0 0 1 5 none, .sl 9 0 0 1 3 none, .sl 10 1 0 1 1 (some 1), .sl 11 1 0 1 1 (some 1), .nils, J 0, J 1, .nils, J 4096, .nils] ++ (List.replicate 33 (J 0)) ++ ([.sl 15 0 0 1 29 none, J 0, .nils]))
def o12 : O := O.cells 0 ([.str (ByteArray.mk #[109]), .sl 13 0 0 1 4 (some 1)])
def o13 : O := O.cells 0 ([J 1, J 0, J 0, J 0, J 0, J 0, J 0, .nils, J 0, .bool false, .nils, .nils, J 0, J 0, J 0, J 0, J 0, J 0, J 0, J 0, .cplx .f64 0 0, .str (ByteArray.mk #[]), J 0, J 0, .nils, J 0, J 0, .nils, .sl 16 0 0 1 2 (some 1)])
def o14 : O := O.cells 0 ([.sl 2 0 0 3 1 none, .sl 14 0 0 1 2 none, J 256, .sl 17 0 0 256 1 none, .sl 18 0 0 256 1 none, .sl 19 0 0 256 1 none, .sl 20 0 0 1 3 none, .bool true, .nils, .sl 7 0 0 1 5 none, .sl 9 0 0 1 3 none, .sl 10 1 0 1 1 (some 1), .sl 11 1 0 1 1 (some 1), .sl 22 0 0 1 16 none, J 0, J 1, .nils, J 4096, .sl 24 0 0 1 6 none, J 0, J 1] ++ (List.replicate 31 (J 0)) ++ ([.sl 15 1 0 2 29 none, J 0, .nils]))
def o15 : O := O.cells 0 ([.sl 8 0 0 3 1 none, J 0, .sl 21 0 0 1 3 none, .nils, .nils])
def o16 : O := O.cells 1 ([J 1, J 0, J 0, J 0, J 0, J 0, J 0, .nils, J 0, .bool false, .nils, .nils, J 0, J 0, J 0, J 0, J 0, J 0, J 0, J 0, .cplx .f64 0 0, .str (ByteArray.mk #[]), J 0, J 0, .nils, J 0, J 0, .nils, .sl 16 0 0 1 2 (some 1), J 2, J 0, J 0, J 0, J 0, J 0, J 1, .nils, J 0, .bool false, .nils, .nils, J 0, J 0, J 0, J 0, J 0, J 0, J 0, J 0, .cplx .f64 0 0, .str (ByteArray.mk #[]), J 0, J 0, .nils, J 0, J 0, .nils, .nils])
def o17 : O := O.cells 0 ([J 1] ++ (List.replicate 255 (J 0)))
def o18 : O := O.cells 0 ([.bool true] ++ (List.replicate 255 (.bool false)))
def o19 : O := O.cells 0 ((List.replicate 256 (.str (ByteArray.mk #[]))))
def o20 : O := O.cells 0 ([J 1, J 0, J 0])
def o21 : O := O.cells 0 ([J 0, J 1, .bool false])
def o22 : O := O.cells 0 ([J 0, J 1, J 0, J 0, J 0, .sl 23 0 0 1 4 none, .nils, .nils, .nils, J 0, J 0, J 1, .bool false, .bool false, J 0, J (-1)])
def o23 : O := O.cells 0 ([J 0, J 0, .nils, J 0])
def o24 : O := O.cells 0 ([J 1, J 0, J 0, J 1, J 0, J 0])
def o25 : O := O.cells 0 ([.sl 2 0 0 3 1 none, .sl 14 0 0 1 2 none, J 256, .sl 25 0 0 256 1 none, .sl 26 0 0 256 1 none, .sl 27 0 0 256 1 none, .sl 28 0 0 1 3 none, .bool true, .nils, .sl 7 0 0 1 5 none, .sl 9 0 0 1 3 none, .sl 10 1 0 1 1 (some 1), .sl 11 1 0 1 1 (some 1), .sl 30 1 0 2 16 none, J 0, J 1, .nils, J 4096, .sl 32 1 0 2 6 none, J 0, J 2] ++ (List.replicate 31 (J 0)) ++ ([.sl 15 2 0 3 29 none, J 0, .nils]))
def o26 : O := O.cells 0 ([.sl 8 0 0 3 1 none, J 0, .sl 29 1 0 2 3 none, .nils, .nils])
def o27 : O := O.cells 2 ([J 1, J 0, J 0, J 0, J 0, J 0, J 0, .nils, J 0, .bool false, .nils, .nils, J 0, J 0, J 0, J 0, J 0, J 0, J 0, J 0, .cplx .f64 0 0, .str (ByteArray.mk #[]), J 0, J 0, .nils, J 0, J 0, .nils, .sl 16 0 0 1 2 (some 1), J 2, J 0, J 0, J 0, J 0, J 0, J 1, .nils, J 0, .bool false, .nils, .nils, J 0, J 0, J 0, J 0, J 0, J 0, J 0, J 0, .cplx .f64 0 0, .str (ByteArray.mk #[]), J 0, J 0, .nils, J 0, J 0, .nils, .nils, J 2, J 0, J 0, J 0, J 0, J 1, J 1, .nils, J 0, .bool false, .nils, .nils, J 0, J 0, J 0, J 0, J 0, J 0, J 0, J 0, .cplx .f64 0 0, .str (ByteArray.mk #[]), J 0, J 0, .nils, J 0, J 0, .nils, .nils])
def o28 : O := O.cells 0 ([J 1, J 1] ++ (List.replicate 254 (J 0)))
def o29 : O := O.cells 0 ([.bool true, .bool true] ++ (List.replicate 254 (.bool false)))
def o30 : O := O.cells 0 ([J 2, J 0, J 0])
def o31 : O := O.cells 1 ([J 0, J 1, .bool false, J 1, J 1, .bool false])
def o32 : O := O.cells 1 ([J 0, J 1, J 0, J 0, J 0, .sl 23 0 0 1 4 none, .nils, .nils, .nils, J 0, J 0, J 1, .bool false, .bool false, J 0, J (-1), J 1, J 1, J 0, J 0, J 0, .sl 31 0 0 1 4 none, .nils, .nils, .nils, J 0, J 0, J 1, .bool false, .bool false, J 0, J (-1)])
def o33 : O := O.cells 1 ([J 1, J 0, J 0, J 1, J 0, J 0, J 1, J 0, J 1, J 1, J 0, J 0])
def o34 : O := O.cells 0 ([.sl 2 0 0 3 1 none, .sl 14 0 0 1 2 none, J 256, .sl 33 0 0 256 1 none, .sl 34 0 0 256 1 none, .sl 35 0 0 256 1 none, .sl 36 0 0 1 3 none, .bool true, .nils, .sl 7 0 0 1 5 none, .sl 9 0 0 1 3 none, .sl 10 1 0 1 1 (some 1), .sl 11 1 0 1 1 (some 1), .sl 38 2 0 3 16 none, J 0, J 1, .nils, J 4096, .sl 40 1 0 3 6 none, J 0, J 3] ++ (List.replicate 31 (J 0)) ++ ([.sl 15 3 0 4 29 none, J 0, .nils]))
def o35 : O := O.cells 0 ([.sl 8 0 0 3 1 none, J 0, .sl 37 1 0 3 3 none, .nils, .nils])
def o36 : O := O.cells 3 ([J 1, J 0, J 0, J 0, J 0, J 0, J 0, .nils, J 0, .bool false, .nils, .nils, J 0, J 0, J 0, J 0, J 0, J 0, J 0, J 0, .cplx .f64 0 0, .str (ByteArray.mk #[]), J 0, J 0, .nils, J 0, J 0, .nils, .sl 16 0 0 1 2 (some 1), J 2, J 0, J 0, J 0, J 0, J 0, J 1, .nils, J 0, .bool false, .nils, .nils, J 0, J 0, J 0, J 0, J 0, J 0, J 0, J 0, .cplx .f64 0 0, .str (ByteArray.mk #[]), J 0, J 0, .nils, J 0, J 0, .nils, .nils, J 2, J 0, J 0, J 0, J 0, J 1, J 1, .nils, J 0, .bool false, .nils, .nils, J 0, J 0, J 0, J 0, J 0, J 0, J 0, J 0, .cplx .f64 0 0, .str (ByteArray.mk #[]), J 0, J 0, .nils, J 0, J 0, .nils, .nils, J 2, J 0, J 0, J 0, J 0, J 2, J 1, .nils, J 0, .bool false, .nils, .nils, J 0, J 0, J 0, J 0, J 0, J 0, J 0, J 0, .cplx .f64 0 0, .str (ByteArray.mk #[]), J 0, J 0, .nils, J 0, J 0, .nils, .nils])
def o37 : O := O.cells 0 ([J 1, J 1, J 1] ++ (List.replicate 253 (J 0)))
def o38 : O := O.cells 0 ([.bool true, .bool true, .bool true] ++ (List.replicate 253 (.bool false)))
def o39 : O := O.cells 0 ([J 3, J 0, J 0])
def o40 : O := O.cells 1 ([J 0, J 1, .bool false, J 1, J 1, .bool false, J 2, J 1, .bool false])
def o41 : O := O.cells 2 ([J 0, J 1, J 0, J 0, J 0, .sl 23 0 0 1 4 none, .nils, .nils, .nils, J 0, J 0, J 1, .bool false, .bool false, J 0, J (-1), J 1, J 1, J 0, J 0, J 0, .sl 31 0 0 1 4 none, .nils, .nils, .nils, J 0, J 0, J 1, .bool false, .bool false, J 0, J (-1), J 2, J 1, J 0, J 0, J 0, .sl 39 0 0 1 4 none, .nils, .nils, .nils, J 0, J 0, J 1, .bool false, .bool false, J 0, J (-1)])
def o42 : O := O.cells 1 ([J 1, J 0, J 0, J 1, J 0, J 0, J 1, J 0, J 1, J 1, J 0, J 0, J 1, J 0, J 2, J 1, J 0, J 0])
def o43 : O := O.cells 0 ([.str (ByteArray.mk #[102]), J 0, J 0, .sl 1 0 0 1 11 (some 1)])
def o44 : O := O.cells 0 ([.sl 2 0 0 3 1 none, .sl 14 0 0 1 2 none, J 256, .sl 33 0 0 256 1 none, .sl 34 0 0 256 1 none, .sl 35 0 0 256 1 none, .sl 36 0 0 1 3 none, .bool true, .nils, .sl 7 0 0 1 5 none, .sl 9 0 0 1 3 none, .sl 10 1 0 1 1 (some 1), .sl 11 1 0 1 1 (some 1), .sl 38 2 0 3 16 none, J 0, J 1, .nils, J 4096, .sl 52 1 0 7 6 none, J 0, J 3, J 0, J 4, J 0, J 0, J 0, J 0, J 0, J 0, J 0, J 0, J 0, J 0, J 228, J 0, J 0, J 0, J 0, J 0, J 0, J 0, J 0, J 0, J 0, J 228, J 0, J 0, J 0, J 0, J 0, J 0, J 0, .sl 15 7 0 8 29 none, J 0, .nils])
def o45 : O := O.cells 0 ([.sl 8 0 0 3 1 none, J 1, .sl 50 1 0 3 3 none, .nils, .nils])
def o46 : O := O.cells 1 ([J 4])
def o47 : O := O.cells 7 ([J 1, J 0, J 0, J 0, J 0, J 0, J 0, .nils, J 0, .bool false, .nils, .nils, J 0, J 0, J 0, J 0, J 0, J 0, J 0, J 0, .cplx .f64 0 0, .str (ByteArray.mk #[]), J 0, J 0, .nils, J 0, J 0, .nils, .sl 16 0 0 1 2 (some 1), J 2, J 0, J 0, J 0, J 0, J 0, J 1, .nils, J 0, .bool false, .nils, .nils, J 0, J 0, J 0, J 0, J 0, J 0, J 0, J 0, .cplx .f64 0 0, .str (ByteArray.mk #[]), J 0, J 0, .nils, J 0, J 0, .nils, .nils, J 2, J 0, J 0, J 0, J 0, J 1, J 1, .nils, J 0, .bool false, .nils, .nils, J 0, J 0, J 0, J 0, J 0, J 0, J 0, J 0, .cplx .f64 0 0, .str (ByteArray.mk #[]), J 0, J 0, .nils, J 0, J 0, .nils, .nils, J 2, J 0, J 0, J 0, J 0, J 2, J 1, .nils, J 0, .bool false, .nils, .nils, J 0, J 0, J 0, J 0, J 0, J 0, J 0, J 0, .cplx .f64 0 0, .str (ByteArray.mk #[]), J 0, J 0, .nils, J 0, J 0, .nils, .nils, J 5, J 0, J 0, J 0, J 0, J 0, J 0, .nils, J 0, .bool false, .nils, .nils, J (-1), J 0, J 0, J 0, J 1, J 1, J 0, J 0, .cplx .f64 0 0, .str (ByteArray.mk #[]), J 0, J 0, .nils, J 57, J 57, .nils, .nils, J 5, J 0, J 0, J 0, J 0, J 0, J 0, .nils, J 0, .bool false, .nils, .nils, J (-1), J 0, J 0, J 1, J 1, J 1, J 0, J 0, .cplx .f64 0 0, .str (ByteArray.mk #[]), J 0, J 0, .nils, J 57, J 57, .nils, .nils, J 5, J 0, J 0, J 0, J 0, J 0, J 0, .nils, J 0, .bool false, .nils, .nils, J (-1), J 0, J 0, J 2, J 1, J 1, J 0, J 0, .cplx .f64 0 0, .str (ByteArray.mk #[]), J 0, J 0, .nils, J 57, J 57, .nils, .nils, J 5, J 0, J 0, J 0, J 0, J 0, J 0, .nils, J 0, .bool false, .nils, .nils, J (-1), J 0, J 0, J 0, J 1, J 1, J 0, J 0, .cplx .f64 0 0, .str (ByteArray.mk #[]), J 0, J 0, .nils, J 57, J 57, .nils, .nils])
def o48 : O := O.cells 2 ([J 0, J 1, J 0, J 0, J 0, .sl 51 0 0 1 4 none, .nils, .nils, .nils, J 0, J 0, J 1, .bool false, .bool false, J 114, J (-1), J 1, J 1, J 0, J 0, J 0, .sl 45 0 0 1 4 none, .nils, .nils, .nils, J 0, J 0, J 1, .bool false, .bool false, J 57, J (-1), J 2, J 1, J 0, J 0, J 0, .sl 48 0 0 1 4 none, .nils, .nils, .nils, J 0, J 0, J 1, .bool false, .bool false, J 57, J (-1)])
def o49 : O := O.cells 1 ([J 1, J 1, .bool false, J 2, J 1, .bool false, J 0, J 1, .bool false])
def o50 : O := O.cells 1 ([J 1, J 0, J 0, J 1, J 0, J 0, J 1, J 0, J 1, J 1, J 0, J 0, J 1, J 0, J 2, J 1, J 0, J 0, J 3, J 0, J 0, J 1, J 57, J 57])
def o51 : O := O.cells 1 ([J 2, J 1, .bool false, J 0, J 1, .bool false, J 1, J 1, .bool false])
def o52 : O := O.cells 1 ([J 1, J 0, J 0, J 1, J 0, J 0, J 1, J 0, J 1, J 1, J 0, J 0, J 1, J 0, J 2, J 1, J 0, J 0, J 3, J 0, J 0, J 1, J 57, J 57, J 3, J 0, J 1, J 1, J 57, J 57])
def o53 : O := O.cells 1 ([J 1, J 0, J 0, J 1, J 0, J 0, J 1, J 0, J 1, J 1, J 0, J 0, J 1, J 0, J 2, J 1, J 0, J 0, J 3, J 0, J 0, J 1, J 57, J 57, J 3, J 0, J 1, J 1, J 57, J 57, J 3, J 0, J 2, J 1, J 57, J 57])
def o54 : O := O.cells 1 ([J 1, J 0, J 0, J 1, J 0, J 0, J 1, J 0, J 1, J 1, J 0, J 0, J 1, J 0, J 2, J 1, J 0, J 0, J 3, J 0, J 0, J 1, J 57, J 57, J 3, J 0, J 1, J 1, J 57, J 57, J 3, J 0, J 2, J 1, J 57, J 57, J 3, J 0, J 0, J 1, J 57, J 57])
def o55 : O := O.cells 0 ([.sl 55 0 0 3 1 none, .nils, .ptr 56 0 0, .ptr 59 0 0, .ptr 60 0 0, .sl 63 0 0 1 4 none, .map 70, J 0, J 1, .nils, .ptr 71 0 0, .nils, J 0, .nils])
def o56 : O := O.cells 0 ([.sl 57 0 0 256 3 (some 256), .map 58])
def o57 : O := O.cells 0 ((repeatC 256 [J 0, .bool false, .str (ByteArray.mk #[])]))
def o58 : O := O.map 0 [] []
def o59 : O := O.cells 0 ([J 1] ++ (List.replicate 48 (J 0)))
def o60 : O := O.cells 0 ([.map 61, .map 62])
def o61 : O := O.cells 0 ([.ptr 64 0 0, .ptr 69 0 0, J 0, J 0])
def o62 : O := O.cells 0 ([.sl 65 0 0 3 1 none, J 0, .ptr 66 0 0, .ptr 67 0 0, .ptr 68 0 0])
def o63 : O := O.cells 0 ([J 64, .nils])
def o64 : O := O.cells 0 ([.bool true, J 0, J 0] ++ (List.replicate 257 (.nils)))
def o65 : O := O.cells 0 ([J 4096, .nils] ++ (List.replicate 34 (J 0)))
def o66 : O := O.cells 0 ([.ptr 1 0 0, .nils, .map 19])
def o67 : O := O.cells 0 ([.sl 2 0 0 3 1 none, .nils, .ptr 3 0 0, .ptr 6 0 0, .ptr 7 0 0, .sl 10 0 0 1 4 none, .map 17, J 0, J 1, .nils, .ptr 18 0 0, .nils, J 0, .nils])
def o68 : O := O.cells 0 ([.sl 4 0 0 256 3 (some 256), .map 5])
def o69 : O := O.cells 0 ([.map 8, .map 9])
def o70 : O := O.cells 0 ([.ptr 11 0 0, .ptr 16 0 0, J 0, J 0])
def o71 : O := O.cells 0 ([.sl 12 0 0 3 1 none, J 0, .ptr 13 0 0, .ptr 14 0 0, .ptr 15 0 0])
def o72 : O := O.cells 0 ([.str (ByteArray.mk #[109]), .sl 21 0 0 1 4 (some 1)])
def o73 : O := O.cells 0 ([.str (ByteArray.mk #[102]), J 0, J 0, .sl 22 0 0 1 11 (some 1)])
def o74 : O := O.cells 0 ([.sl 2 0 0 3 1 none, .sl 23 0 0 1 2 none, .ptr 3 0 0, .ptr 6 0 0, .ptr 7 0 0, .sl 10 0 0 1 4 none, .map 17, J 0, J 1, .nils, .ptr 18 0 0, .sl 26 0 0 1 29 none, J 0, .nils])
def o75 : O := O.cells 0 ([.str (ByteArray.mk #[109]), .sl 24 0 0 1 4 none])
def o76 : O := O.cells 0 ([.str (ByteArray.mk #[102]), J 0, J 0, .sl 25 0 0 1 11 none])
def o77 : O := O.cells 0 ([J 1, J 0, J 0, J 0, J 0, J 0, J 0, .nils, J 0, .bool false, .nils, .nils, J 0, J 0, J 0, J 0, J 0, J 0, J 0, J 0, .cplx .f64 0 0, .str (ByteArray.mk #[]), J 0, J 0, .nils, J 0, J 0, .nils, .sl 27 0 0 1 2 (some 1)])
def o78 : O := O.cells 0 ([.str (ByteArray.mk #[109]), .sl 28 0 0 1 4 none])
def o79 : O := O.cells 0 ([.str (ByteArray.mk #[102]), J 0, J 0, .sl 29 0 0 1 11 none])
def o80 : O := O.cells 0 ([.sl 1 0 0 256 3 (some 256), .map 2])
def o81 : O := O.cells 255 ((List.replicate 256 (J 0)))
def o82 : O := O.cells 0 ([.ptr 1 0 0, .nils, .map 26])
def o83 : O := O.cells 0 ([.sl 2 0 0 3 1 none, .sl 3 0 0 1 2 none, .ptr 6 0 0, .ptr 9 0 0, .ptr 10 0 0, .sl 13 0 0 1 4 none, .map 20, J 0, J 1, .nils, .ptr 21 0 0, .sl 22 0 0 1 29 none, J 0, .nils])
def o84 : O := O.cells 0 ([.str (ByteArray.mk #[109]), .sl 4 0 0 1 4 none])
def o85 : O := O.cells 0 ([.str (ByteArray.mk #[102]), J 0, J 0, .sl 5 0 0 1 11 none])
def o86 : O := O.cells 0 ([.sl 7 0 0 256 3 (some 256), .map 8])
def o87 : O := O.cells 0 ([.map 11, .map 12])
def o88 : O := O.cells 0 ([.ptr 14 0 0, .ptr 19 0 0, J 0, J 0])
def o89 : O := O.cells 0 ([.sl 15 0 0 3 1 none, J 0, .ptr 16 0 0, .ptr 17 0 0, .ptr 18 0 0])
def o90 : O := O.cells 0 ([J 1, J 0, J 0, J 0, J 0, J 0, J 0, .nils, J 0, .bool false, .nils, .nils, J 0, J 0, J 0, J 0, J 0, J 0, J 0, J 0, .cplx .f64 0 0, .str (ByteArray.mk #[]), J 0, J 0, .nils, J 0, J 0, .nils, .sl 23 0 0 1 2 (some 1)])
def o91 : O := O.cells 0 ([.sl 2 0 0 3 1 none, .sl 3 0 0 1 2 none, .ptr 27 0 0, .ptr 9 0 0, .ptr 10 0 0, .sl 13 0 0 1 4 none, .map 20, J 0, J 1, .nils, .ptr 21 0 0, .sl 22 1 0 2 29 none, J 0, .nils])
def o92 : O := O.cells 0 ([J 1, J 1] ++ (List.replicate 47 (J 0)))
def o93 : O := O.cells 0 ([J 64, .sl 30 0 0 1 3 none])
def o94 : O := O.map 1 [0] [(J 0, .ptr 31 0 0)]
def o95 : O := O.cells 0 ([J 4096, .sl 35 0 0 1 6 none, J 0, J 0, J 1] ++ (List.replicate 31 (J 0)))
def o96 : O := O.cells 1 ([J 1, J 0, J 0, J 0, J 0, J 0, J 0, .nils, J 0, .bool false, .nils, .nils, J 0, J 0, J 0, J 0, J 0, J 0, J 0, J 0, .cplx .f64 0 0, .str (ByteArray.mk #[]), J 0, J 0, .nils, J 0, J 0, .nils, .sl 23 0 0 1 2 (some 1), J 2, J 0, J 0, J 0, J 0, J 0, J 1, .nils, J 0, .bool false, .nils, .nils, J 0, J 0, J 0, J 0, J 0, J 0, J 0, J 0, .cplx .f64 0 0, .str (ByteArray.mk #[]), J 0, J 0, .nils, J 0, J 0, .nils, .nils])
def o97 : O := O.cells 0 ([.sl 28 0 0 256 3 none, .map 29])
def o98 : O := O.cells 0 ([J 1, .bool true] ++ (repeatC 255 [.str (ByteArray.mk #[]), J 0, .bool false]) ++ ([.str (ByteArray.mk #[])]))
def o99 : O := O.cells 0 ([J 0, J 1, J 0, J 0, J 0, .ptr 32 0 0, .ptr 34 0 0, J 1, .bool false, .bool false, J 0, J (-1)])
def o100 : O := O.cells 0 ([.bool true, .sl 33 0 0 1 4 none, .nils])
def o101 : O := O.cells 0 ([.bool true, .nils, .nils, J 0, J 0])
def o102 : O := O.cells 0 ([.sl 1 0 0 256 3 none, .map 2])
def o103 : O := O.cells 255 ([J 1] ++ (List.replicate 255 (J 0)))
def o104 : O := O.cells 0 ([J 0, J 1])
def o105 : O := O.cells 0 ([.ptr 1 0 0, .sl 32 0 0 1 7 none, .map 33])
def o106 : O := O.cells 0 ([.sl 2 0 0 3 1 none, .sl 3 0 0 1 2 none, .ptr 6 0 0, .ptr 9 0 0, .ptr 10 0 0, .sl 13 0 0 1 4 none, .map 21, J 0, J 1, .nils, .ptr 26 0 0, .sl 28 1 0 2 29 none, J 0, .nils])
def o107 : O := O.cells 0 ([.sl 7 0 0 256 3 none, .map 8])
def o108 : O := O.cells 0 ([.ptr 14 0 0, .ptr 20 0 0, J 0, J 0])
def o109 : O := O.cells 0 ([.sl 15 0 0 3 1 none, J 0, .ptr 16 0 0, .ptr 18 0 0, .ptr 19 0 0])
def o110 : O := O.cells 0 ([J 64, .sl 17 0 0 1 3 none])
def o111 : O := O.map 1 [0] [(J 0, .ptr 22 0 0)]
def o112 : O := O.cells 0 ([J 0, J 1, J 0, J 0, J 0, .ptr 23 0 0, .ptr 25 0 0, J 1, .bool false, .bool false, J 0, J (-1)])
def o113 : O := O.cells 0 ([.bool true, .sl 24 0 0 1 4 none, .nils])
def o114 : O := O.cells 0 ([J 4096, .sl 27 0 0 1 6 none, J 0, J 0, J 1] ++ (List.replicate 31 (J 0)))
def o115 : O := O.cells 1 ([J 1, J 0, J 0, J 0, J 0, J 0, J 0, .nils, J 0, .bool false, .nils, .nils, J 0, J 0, J 0, J 0, J 0, J 0, J 0, J 0, .cplx .f64 0 0, .str (ByteArray.mk #[]), J 0, J 0, .nils, J 0, J 0, .nils, .sl 29 0 0 1 2 (some 1), J 2, J 0, J 0, J 0, J 0, J 0, J 1, .nils, J 0, .bool false, .nils, .nils, J 0, J 0, J 0, J 0, J 0, J 0, J 0, J 0, .cplx .f64 0 0, .str (ByteArray.mk #[]), J 0, J 0, .nils, J 0, J 0, .nils, .nils])
def o116 : O := O.cells 0 ([.str (ByteArray.mk #[109]), .sl 30 0 0 1 4 none])
def o117 : O := O.cells 0 ([.str (ByteArray.mk #[102]), J 0, J 0, .sl 31 0 0 1 11 none])
def o118 : O := O.cells 0 ([J 0, J 1, J 1, J 0, J 0, J 0, .bool false])
def o119 : O := O.map 1 [0] [(.agg [J 0, J 1], .agg [J 0, J 0])]
def o120 : O := O.cells 0 ([.sl 2 0 0 3 1 none, .sl 3 0 0 1 2 none, .ptr 34 0 0, .ptr 9 0 0, .ptr 10 0 0, .sl 13 0 0 1 4 none, .map 21, J 0, J 1, .nils, .ptr 26 0 0, .sl 28 2 0 3 29 none, J 0, .nils])
def o121 : O := O.cells 0 ([J 1, J 2] ++ (List.replicate 47 (J 0)))
def o122 : O := O.cells 0 ([J 64, .sl 17 1 0 2 3 none])
def o123 : O := O.map 2 [0, 1] [(J 0, .ptr 22 0 0), (J 1, .ptr 37 0 0)]
def o124 : O := O.cells 0 ([J 4096, .sl 27 1 0 2 6 none, J 0, J 0, J 2] ++ (List.replicate 31 (J 0)))
def o125 : O := O.cells 2 ([J 1, J 0, J 0, J 0, J 0, J 0, J 0, .nils, J 0, .bool false, .nils, .nils, J 0, J 0, J 0, J 0, J 0, J 0, J 0, J 0, .cplx .f64 0 0, .str (ByteArray.mk #[]), J 0, J 0, .nils, J 0, J 0, .nils, .sl 29 0 0 1 2 (some 1), J 2, J 0, J 0, J 0, J 0, J 0, J 1, .nils, J 0, .bool false, .nils, .nils, J 0, J 0, J 0, J 0, J 0, J 0, J 0, J 0, .cplx .f64 0 0, .str (ByteArray.mk #[]), J 0, J 0, .nils, J 0, J 0, .nils, .nils, J 2, J 0, J 0, J 0, J 0, J 1, J 1, .nils, J 0, .bool false, .nils, .nils, J 0, J 0, J 0, J 0, J 0, J 0, J 0, J 0, .cplx .f64 0 0, .str (ByteArray.mk #[]), J 0, J 0, .nils, J 0, J 0, .nils, .nils])
def o126 : O := O.cells 0 ([.sl 35 0 0 256 3 none, .map 36])
def o127 : O := O.cells 0 ([J 1, .bool true, .str (ByteArray.mk #[]), J 1, .bool true] ++ (repeatC 254 [.str (ByteArray.mk #[]), J 0, .bool false]) ++ ([.str (ByteArray.mk #[])]))
def o128 : O := O.cells 0 ([J 1, J 1, J 0, J 0, J 0, .ptr 38 0 0, .ptr 40 0 0, J 1, .bool false, .bool false, J 0, J (-1)])
def o129 : O := O.cells 0 ([.bool true, .sl 39 0 0 1 4 none, .nils])
def o130 : O := O.cells 255 ([J 1, J 1] ++ (List.replicate 254 (J 0)))
def o131 : O := O.cells 1 ([J 0, J 1, J 1, J 1])
def o132 : O := O.cells 0 ([.ptr 1 0 0, .sl 36 1 0 2 7 none, .map 37])
def o133 : O := O.cells 0 ([.sl 2 0 0 3 1 none, .sl 3 0 0 1 2 none, .ptr 6 0 0, .ptr 9 0 0, .ptr 10 0 0, .sl 13 0 0 1 4 none, .map 21, J 0, J 1, .nils, .ptr 30 0 0, .sl 32 2 0 3 29 none, J 0, .nils])
def o134 : O := O.map 2 [0, 1] [(J 0, .ptr 22 0 0), (J 1, .ptr 26 0 0)]
def o135 : O := O.cells 0 ([J 1, J 1, J 0, J 0, J 0, .ptr 27 0 0, .ptr 29 0 0, J 1, .bool false, .bool false, J 0, J (-1)])
def o136 : O := O.cells 0 ([.bool true, .sl 28 0 0 1 4 none, .nils])
def o137 : O := O.cells 0 ([J 4096, .sl 31 1 0 2 6 none, J 0, J 0, J 2] ++ (List.replicate 31 (J 0)))
def o138 : O := O.cells 2 ([J 1, J 0, J 0, J 0, J 0, J 0, J 0, .nils, J 0, .bool false, .nils, .nils, J 0, J 0, J 0, J 0, J 0, J 0, J 0, J 0, .cplx .f64 0 0, .str (ByteArray.mk #[]), J 0, J 0, .nils, J 0, J 0, .nils, .sl 33 0 0 1 2 (some 1), J 2, J 0, J 0, J 0, J 0, J 0, J 1, .nils, J 0, .bool false, .nils, .nils, J 0, J 0, J 0, J 0, J 0, J 0, J 0, J 0, .cplx .f64 0 0, .str (ByteArray.mk #[]), J 0, J 0, .nils, J 0, J 0, .nils, .nils, J 2, J 0, J 0, J 0, J 0, J 1, J 1, .nils, J 0, .bool false, .nils, .nils, J 0, J 0, J 0, J 0, J 0, J 0, J 0, J 0, .cplx .f64 0 0, .str (ByteArray.mk #[]), J 0, J 0, .nils, J 0, J 0, .nils, .nils])
def o139 : O := O.cells 0 ([.str (ByteArray.mk #[109]), .sl 34 0 0 1 4 none])
def o140 : O := O.cells 0 ([.str (ByteArray.mk #[102]), J 0, J 0, .sl 35 0 0 1 11 none])
def o141 : O := O.cells 1 ([J 0, J 1, J 1, J 0, J 0, J 0, .bool false, J 1, J 1, J 2, J 0, J 1, J 0, .bool false])
def o142 : O := O.map 2 [0, 1] [(.agg [J 0, J 1], .agg [J 0, J 0]), (.agg [J 1, J 1], .agg [J 1, J 0])]
def o143 : O := O.cells 0 ([.sl 2 0 0 3 1 none, .sl 3 0 0 1 2 none, .ptr 38 0 0, .ptr 9 0 0, .ptr 10 0 0, .sl 13 0 0 1 4 none, .map 21, J 0, J 1, .nils, .ptr 30 0 0, .sl 32 3 0 4 29 none, J 0, .nils])
def o144 : O := O.cells 0 ([J 1, J 3] ++ (List.replicate 47 (J 0)))
def o145 : O := O.cells 0 ([J 64, .sl 17 2 0 3 3 none])
def o146 : O := O.cells 2 ([J 0, J 1, .bool false, J 1, J 1, .bool false, J 2, J 1, .bool false])
def o147 : O := O.map 3 [0, 1, 2] [(J 0, .ptr 22 0 0), (J 1, .ptr 26 0 0), (J 2, .ptr 41 0 0)]
def o148 : O := O.cells 0 ([J 4096, .sl 31 2 0 3 6 none, J 0, J 0, J 3] ++ (List.replicate 31 (J 0)))
def o149 : O := O.cells 2 ([J 1, J 0, J 0, J 1, J 0, J 0, J 1, J 0, J 1, J 1, J 0, J 0, J 1, J 0, J 2, J 1, J 0, J 0])
def o150 : O := O.cells 3 ([J 1, J 0, J 0, J 0, J 0, J 0, J 0, .nils, J 0, .bool false, .nils, .nils, J 0, J 0, J 0, J 0, J 0, J 0, J 0, J 0, .cplx .f64 0 0, .str (ByteArray.mk #[]), J 0, J 0, .nils, J 0, J 0, .nils, .sl 33 0 0 1 2 (some 1), J 2, J 0, J 0, J 0, J 0, J 0, J 1, .nils, J 0, .bool false, .nils, .nils, J 0, J 0, J 0, J 0, J 0, J 0, J 0, J 0, .cplx .f64 0 0, .str (ByteArray.mk #[]), J 0, J 0, .nils, J 0, J 0, .nils, .nils, J 2, J 0, J 0, J 0, J 0, J 1, J 1, .nils, J 0, .bool false, .nils, .nils, J 0, J 0, J 0, J 0, J 0, J 0, J 0, J 0, .cplx .f64 0 0, .str (ByteArray.mk #[]), J 0, J 0, .nils, J 0, J 0, .nils, .nils, J 2, J 0, J 0, J 0, J 0, J 2, J 1, .nils, J 0, .bool false, .nils, .nils, J 0, J 0, J 0, J 0, J 0, J 0, J 0, J 0, .cplx .f64 0 0, .str (ByteArray.mk #[]), J 0, J 0, .nils, J 0, J 0, .nils, .nils])
def o151 : O := O.cells 0 ([.sl 39 0 0 256 3 none, .map 40])
def o152 : O := O.cells 0 ([J 1, .bool true, .str (ByteArray.mk #[]), J 1, .bool true, .str (ByteArray.mk #[]), J 1, .bool true] ++ (repeatC 253 [.str (ByteArray.mk #[]), J 0, .bool false]) ++ ([.str (ByteArray.mk #[])]))
def o153 : O := O.cells 0 ([J 2, J 1, J 0, J 0, J 0, .ptr 42 0 0, .ptr 44 0 0, J 1, .bool false, .bool false, J 0, J (-1)])
def o154 : O := O.cells 0 ([.bool true, .sl 43 0 0 1 4 none, .nils])
def o155 : O := O.cells 255 ([J 1, J 1, J 1] ++ (List.replicate 253 (J 0)))
def o156 : O := O.cells 2 ([J 0, J 1, J 1, J 1, J 2, J 1])
def o157 : O := O.cells 0 ([.str (ByteArray.mk #[102]), J 0, J 0, .sl 1 0 0 1 11 none])
def o158 : O := O.cells 0 ([.bool true, .sl 3 0 0 1 4 none, .nils])
def o159 : O := O.cells 0 ([.bool true, .sl 4 0 0 1 4 none, .nils])
def rw5_0 : Row := ([.agg [.str (ByteArray.mk #[109]), .sl 0 0 0 1 4 none], .ptr 2 0 0],
 [o157, o9, o158, o23],
 [.agg [J 1, J 0, J 0, .cplx .f64 0 0, .str (ByteArray.mk #[]), J 0, J 0, .nils, J 0, J 0, .cplx .f64 0 0, .str (ByteArray.mk #[]), J 0, J 0, .nils, .nils, J 0, J 0, J 0, .nils], J 1, J 0],
 [o157, o9, o159, o23, o23])
def rw314_0 : Row := ([.agg [.str (ByteArray.mk #[109]), .sl 0 0 0 1 4 (some 1)], .agg [.sl 2 0 0 1 4 none, .nils]],
 [o43, o9, o23],
 [.agg [.sl 3 0 0 1 4 none, .nils], .agg [J 1, J 0, J 0, .cplx .f64 0 0, .str (ByteArray.mk #[]), J 0, J 0, .nils, J 0, J 0, .cplx .f64 0 0, .str (ByteArray.mk #[]), J 0, J 0, .nils, .nils, J 0, J 0, J 0, .nils], J 1, J 0],
 [o43, o9, o23, o23])
def rw296_0 : Row := ([.ptr 0 0 0],
 [o64],
 [.nils],
 [o64])
def rw287_0 : Row := ([.ptr 0 0 0],
 [o80, o57, o58],
 [.nils],
 [o80, o57, o58])
def rw287_1 : Row := ([.ptr 0 0 0],
 [o102, o98, o58],
 [.sl 3 0 0 1 2 none],
 [o102, o98, o58, o104])
def rw287_2 : Row := ([.ptr 0 0 0],
 [o102, o127, o58],
 [.sl 3 1 0 2 2 none],
 [o102, o127, o58, o131])
def rw287_3 : Row := ([.ptr 0 0 0],
 [o102, o152, o58],
 [.sl 3 2 0 3 2 none],
 [o102, o152, o58, o156])
def rw36_0 : Row := ([J 1, .sl 0 0 0 3 1 (some 3)],
 [o0],
 [.ptr 1 0 0, J 0],
 [o0, o1, o0, o2, o3, o4, o5, o6, o0, o7, o8, o8])
def rw37_0 : Row := ([.ptr 1 0 0, .agg [.str (ByteArray.mk #[109]), .sl 13 0 0 1 4 (some 1)]],
 [o0, o1, o0, o2, o3, o4, o5, o6, o0, o7, o8, o8, o9, o10],
 [J 0, J 0],
 [o0, o11, o0, o2, o3, o4, o5, o6, o0, o7, o8, o8, o9, o10, o12, o13, o12])
def rw38_0 : Row := ([.ptr 1 0 0, J 0, J 0, J 0, J 0, .nils],
 [o0, o11, o0, o2, o3, o4, o5, o6, o0, o7, o8, o8, o9, o10, o12, o13, o12],
 [.agg [J 0, J 1], J 0],
 [o0, o14, o0, o2, o3, o4, o5, o15, o0, o7, o8, o8, o9, o10, o12, o16, o12, o17, o18, o19, o20, o21, o22, o23, o24])
def rw38_1 : Row := ([.ptr 1 0 0, J 0, J 0, J 0, J 0, .nils],
 [o0, o14, o0, o2, o3, o4, o5, o15, o0, o7, o8, o8, o9, o10, o12, o16, o12, o17, o18, o19, o20, o21, o22, o23, o24],
 [.agg [J 1, J 1], J 0],
 [o0, o25, o0, o2, o3, o4, o5, o26, o0, o7, o8, o8, o9, o10, o12, o27, o12, o17, o18, o19, o20, o21, o22, o23, o24, o28, o29, o19, o30, o31, o32, o23, o33])
def rw38_2 : Row := ([.ptr 1 0 0, J 0, J 0, J 0, J 0, .nils],
 [o0, o25, o0, o2, o3, o4, o5, o26, o0, o7, o8, o8, o9, o10, o12, o27, o12, o17, o18, o19, o20, o21, o22, o23, o24, o28, o29, o19, o30, o31, o32, o23, o33],
 [.agg [J 2, J 1], J 0],
 [o0, o34, o0, o2, o3, o4, o5, o35, o0, o7, o8, o8, o9, o10, o12, o36, o12, o17, o18, o19, o20, o21, o22, o23, o24, o28, o29, o19, o30, o31, o32, o23, o33, o37, o38, o19, o39, o40, o41, o23, o42])
def rw73_0 : Row := ([J 1, .sl 53 0 0 3 1 (some 3)],
 [o0, o44, o0, o2, o3, o4, o5, o45, o0, o7, o46, o8, o9, o10, o12, o47, o12, o17, o18, o19, o20, o21, o22, o23, o24, o28, o29, o19, o30, o31, o32, o23, o33, o37, o38, o19, o39, o40, o48, o23, o42, o49, o23, o50, o51, o23, o52, o40, o23, o53, o49, o23, o54, o0],
 [.ptr 54 0 0, J 0],
 [o0, o44, o0, o2, o3, o4, o5, o45, o0, o7, o46, o8, o9, o10, o12, o47, o12, o17, o18, o19, o20, o21, o22, o23, o24, o28, o29, o19, o30, o31, o32, o23, o33, o37, o38, o19, o39, o40, o48, o23, o42, o49, o23, o50, o51, o23, o52, o40, o23, o53, o49, o23, o54, o0, o55, o0, o56, o57, o58, o59, o60, o58, o58, o61, o62, o0, o63, o63, o63, o64, o58, o65])
def rw219_0 : Row := ([.ptr 0 0 0],
 [o80, o57, o58],
 [.sl 3 255 0 256 1 none],
 [o80, o57, o58, o81])
def rw219_1 : Row := ([.ptr 0 0 0],
 [o102, o98, o58],
 [.sl 3 255 0 256 1 none],
 [o102, o98, o58, o103])
def rw219_2 : Row := ([.ptr 0 0 0],
 [o102, o127, o58],
 [.sl 3 255 0 256 1 none],
 [o102, o127, o58, o130])
def rw219_3 : Row := ([.ptr 0 0 0],
 [o102, o152, o58],
 [.sl 3 255 0 256 1 none],
 [o102, o152, o58, o155])
def rw205_0 : Row := ([.ptr 1 0 0, .agg [.str (ByteArray.mk #[109]), .sl 21 0 0 1 4 (some 1)]],
 [o66, o67, o0, o68, o57, o58, o59, o69, o58, o58, o70, o71, o0, o63, o63, o63, o64, o58, o65, o58, o72, o73, o9],
 [J 0, J 0],
 [o66, o74, o0, o68, o57, o58, o59, o69, o58, o58, o70, o71, o0, o63, o63, o63, o64, o58, o65, o58, o72, o73, o9, o75, o76, o9, o77, o78, o79, o9])
def rw206_0 : Row := ([.ptr 1 0 0, J 0, J 0, J 0, J 0, .nils],
 [o82, o83, o0, o84, o85, o9, o86, o57, o58, o59, o87, o58, o58, o88, o89, o0, o63, o63, o63, o64, o58, o65, o90, o75, o76, o9, o58],
 [.agg [J 0, J 1], J 0],
 [o82, o91, o0, o84, o85, o9, o86, o57, o58, o92, o87, o58, o58, o88, o89, o0, o93, o63, o63, o64, o94, o95, o96, o75, o76, o9, o58, o97, o98, o58, o21, o99, o100, o23, o101, o24])
def rw206_1 : Row := ([.ptr 1 0 0, J 0, J 0, J 0, J 0, .nils],
 [o105, o106, o0, o84, o85, o9, o107, o98, o58, o92, o87, o58, o58, o108, o109, o0, o110, o21, o63, o63, o64, o111, o112, o113, o23, o101, o114, o24, o115, o116, o117, o9, o118, o119],
 [.agg [J 1, J 1], J 0],
 [o105, o120, o0, o84, o85, o9, o107, o98, o58, o121, o87, o58, o58, o108, o109, o0, o122, o31, o63, o63, o64, o123, o112, o113, o23, o101, o124, o33, o125, o116, o117, o9, o118, o119, o126, o127, o58, o128, o129, o23, o101])
def rw206_2 : Row := ([.ptr 1 0 0, J 0, J 0, J 0, J 0, .nils],
 [o132, o133, o0, o84, o85, o9, o107, o127, o58, o121, o87, o58, o58, o108, o109, o0, o122, o31, o63, o63, o64, o134, o112, o113, o23, o101, o135, o136, o23, o101, o137, o33, o138, o139, o140, o9, o141, o142],
 [.agg [J 2, J 1], J 0],
 [o132, o143, o0, o84, o85, o9, o107, o127, o58, o144, o87, o58, o58, o108, o109, o0, o145, o146, o63, o63, o64, o147, o112, o113, o23, o101, o135, o136, o23, o101, o148, o149, o150, o139, o140, o9, o141, o142, o151, o152, o58, o153, o154, o23, o101])

end
end Go.Proofs.YtkhnngghmlpbeaaGreat
