/- The functions that the law reaches, as plain ones (printed by gen.py). -/
import Derived.Test.YtgipaccfnlklcaaGreatt1
set_option linter.unusedVariables false
set_option maxRecDepth 100000
namespace Go.Proofs.YtgipaccfnlklcaaGreat
noncomputable section
open Go.L

/-! ### 28: carousellaw21.awake -/
def L28_0 (N : Nat) : Nat → V × Int × Int × Int × H → Option (V × Int × H)
 | 0, _ => none
 | n + 1, (x23, x24, x25, x26, h27) =>
 (if (decide (x26 < 5)) = true then (
 Option.bind (α := (Int × Int × Int × H)) (tabC rs11 TB11 [x23, (.int .i64 0), (.int .i64 2), (.int .i64 x24), (.int .i64 0), .nils] h27) fun (x28, x29, x30, h31) =>
 (if (x30 != 0) = true then (
 none)
 else (
 L28_0 N n (x23, x24, x25, (IntKind.i64.wrap (x26 + 1)), h31))))
 else (
 some (x23, x25, h27)))
def F28 (N : Nat) : H → Option (Bool × H)
 | h =>
 (some (h ++ [O.cells 0 [(.int .i64 0), (.int .i64 1), (.int .i64 2)]]) : Option H).bind fun h1 =>
 Option.bind (α := (V × Int × H)) (tabC rs34 TB34 [(.int .i64 2), (.sl (h).length 0 0 3 1 (some 3))] h1) fun (x2, x3, h4) =>
 (if (x3 != 0) = true then (
 some (true, h4))
 else (
 (isNil x2).bind fun b7 =>
 some (b7, h4))).bind fun (b5, h6) =>
 (if b5 = true then (
 none)
 else (
 (F10 N h6).bind fun (x8, x9, h10) =>
 Option.bind (α := (Int × Int × H)) (tabC rs9 TB9 [x2, (.agg [(.str x8), x9])] h10) fun (x11, x12, h13) =>
 (L28_0 N N (x2, x11, x12, 0, h13)).bind fun (x32, x33, h34) =>
 Option.bind (α := (Bool × V × V × Int × Int × Int × Int × Int × Int × Int × Int × (Nat × Nat) × ByteArray × Int × Int × V × Int × Int × V × Int × H)) (tabC rs12 TB12 [x32, (.int .i64 1), (.int .i64 0)] h34) fun (x35, x36, x37, x38, x39, x40, x41, x42, x43, x44, x45, x46, x47, x48, x49, x50, x51, x52, x53, x54, h55) =>
 (if (x33 == 0) = true then (
 some ((x54 == 0), h55))
 else (
 some (false, h55))).bind fun (b56, h57) =>
 (if b56 = true then (
 some ((!x35), h57))
 else (
 some (false, h57))).bind fun (b58, h59) =>
 (if b58 = true then (
 some ((x38 == 0), h59))
 else (
 some (false, h59))).bind fun (b60, h61) =>
 (if b60 = true then (
 some ((x40 == 3), h61))
 else (
 some (false, h61))).bind fun (b62, h63) =>
 (if b62 = true then (
 some ((x41 == 2), h63))
 else (
 some (false, h63))).bind fun (b64, h65) =>
 (if b64 = true then (
 some ((x51 == 57), h65))
 else (
 some (false, h65))).bind fun (b66, h67) =>
 (if b66 = true then (
 some ((x43 == 1), h67))
 else (
 some (false, h67))).bind fun (b68, h69) =>
 some (b68, h69)))
abbrev ks28 : List SK := []
abbrev rs28 : List SK := [.one .bool]
def e28 (N : Nat) : Env := ⟨Tryz.prog, 83, inTab [6, 8], inTab [], natTab [(6, 6), (8, 8), (51, 8), (56, 8), (61, 8), (66, 8), (67, 8), (72, 8), (73, 8), (78, 8), (79, 8)], inTab [], calTab [(34, .full (tabF rs34 TB34)), (10, .gro (mkFun ks10 rs10 (F10 N))), (9, .full (tabF rs9 TB9)), (11, .full (tabF rs11 TB11)), (12, .full (tabF rs12 TB12))], altTab [], loopTab [(6, ⟨⟨.normal, [1, 3, 4, 5], [.one .ref, .one (.int .i64), .one (.int .i64), .one (.int .i64)], [], []⟩, [⟨(.exit 0), [1, 4], [.one .ref, .one (.int .i64)], [], []⟩], L28_0 N⟩)], natTab [], inTab [3, 10]⟩
theorem l28_0 (N : Nat) : ∀ A, (e28 N).lp (lid (loopAt Tryz.f28 0)) = some A → LoopOk (e28 N) N (loopAt Tryz.f28 0) A :=
  loopOk_of (A := ⟨⟨.normal, [1, 3, 4, 5], [.one .ref, .one (.int .i64), .one (.int .i64), .one (.int .i64)], [], []⟩, [⟨(.exit 0), [1, 4], [.one .ref, .one (.int .i64)], [], []⟩], L28_0 N⟩) (by kernel_rfl) (fun _ => rfl) (fun _ _ => by kernel_rfl)
theorem lk28 (N : Nat) (g0 : H → Option (ByteArray × V × H)) (g1 : Nat → V × Int × Int × Int × H → Option (V × Int × H)) (h : H) :
    ((some (h ++ [O.cells 0 [(.int .i64 0), (.int .i64 1), (.int .i64 2)]]) : Option H).bind fun h1 =>
Option.bind (α := (V × Int × H)) (tabC rs34 TB34 [(.int .i64 2), (.sl (h).length 0 0 3 1 (some 3))] h1) fun (x2, x3, h4) =>
(if (x3 != 0) = true then (
some (true, h4))
else (
(isNil x2).bind fun b7 =>
some (b7, h4))).bind fun (b5, h6) =>
(if b5 = true then (
none)
else (
(g0 h6).bind fun (x8, x9, h10) =>
Option.bind (α := (Int × Int × H)) (tabC rs9 TB9 [x2, (.agg [(.str x8), x9])] h10) fun (x11, x12, h13) =>
(g1 N (x2, x11, x12, 0, h13)).bind fun (x32, x33, h34) =>
Option.bind (α := (Bool × V × V × Int × Int × Int × Int × Int × Int × Int × Int × (Nat × Nat) × ByteArray × Int × Int × V × Int × Int × V × Int × H)) (tabC rs12 TB12 [x32, (.int .i64 1), (.int .i64 0)] h34) fun (x35, x36, x37, x38, x39, x40, x41, x42, x43, x44, x45, x46, x47, x48, x49, x50, x51, x52, x53, x54, h55) =>
(if (x33 == 0) = true then (
some ((x54 == 0), h55))
else (
some (false, h55))).bind fun (b56, h57) =>
(if b56 = true then (
some ((!x35), h57))
else (
some (false, h57))).bind fun (b58, h59) =>
(if b58 = true then (
some ((x38 == 0), h59))
else (
some (false, h59))).bind fun (b60, h61) =>
(if b60 = true then (
some ((x40 == 3), h61))
else (
some (false, h61))).bind fun (b62, h63) =>
(if b62 = true then (
some ((x41 == 2), h63))
else (
some (false, h63))).bind fun (b64, h65) =>
(if b64 = true then (
some ((x51 == 57), h65))
else (
some (false, h65))).bind fun (b66, h67) =>
(if b66 = true then (
some ((x43 == 1), h67))
else (
some (false, h67))).bind fun (b68, h69) =>
some (b68, h69)))) = evFT ⟨Tryz.prog, 83, inTab [6, 8], inTab [], natTab [(6, 6), (8, 8), (51, 8), (56, 8), (61, 8), (66, 8), (67, 8), (72, 8), (73, 8), (78, 8), (79, 8)], inTab [], calTab [(34, .full (tabF rs34 TB34)), (10, .gro (mkFun ks10 rs10 (g0))), (9, .full (tabF rs9 TB9)), (11, .full (tabF rs11 TB11)), (12, .full (tabF rs12 TB12))], altTab [], loopTab [(6, ⟨⟨.normal, [1, 3, 4, 5], [.one .ref, .one (.int .i64), .one (.int .i64), .one (.int .i64)], [], []⟩, [⟨(.exit 0), [1, 4], [.one .ref, .one (.int .i64)], [], []⟩], g1⟩)], natTab [], inTab [3, 10]⟩ N Tryz.f28 ks28 rs28 h := by kernel_rfl
theorem fine28 (N : Nat) : Fine (e28 N) N 28 Tryz.f28 ks28 rs28 (F28 N) :=
  ⟨Tryz.func28, by kernel_rfl, by kernel_rfl, by kernel_rfl, loops_of ⟨l28_0 N, trivial⟩, by kernel_rfl, by kernel_rfl, fun h => lk28 N (F10 N) (L28_0 N) h⟩
theorem good28 (N : Nat) : Go.L.Good (e28 N) := good_of ⟨gt34, ⟨gdg10 N, ⟨gt9, ⟨gt11, ⟨gt12, trivial⟩⟩⟩⟩⟩
theorem gd28 : CalOk Tryz.prog 28 (.pure (mkP ks28 rs28 (F28 2000))) := mkP_good (fine28 2000) (good28 2000) (by kernel_rfl) (by kernel_rfl)

/-! ### 4: carousellaw21.NodeNobody -/
def L4_0 (N : Nat) : Nat → Int × V × Int × Int × Int × H → Option (H)
 | 0, _ => none
 | n + 1, (x130, x131, x132, x133, x134, h135) =>
 (slen x131).bind fun n136 =>
 (if (decide (x132 < n136)) = true then (
 (sidx x131 x132 1).bind fun q137 =>
 ((rd h135 q137 0)).bind fun x138 =>
 (F10 N h135).bind fun (x139, x140, h141) =>
 (F9 N (x138, x139, x140, h141)).bind fun (x142, x143, h144) =>
 (F11 N (x138, x130, x130, x130, x130, .nils, h144)).bind fun (x145, x146, x147, h148) =>
 (F12 N (x138, x130, x130, h148)).bind fun (x149, x150, x151, x152, x153, x154, x155, x156, x157, x158, x159, x160, x161, x162, x163, x164, x165, x166, x167, x168, h169) =>
 (F13 N (x138, x133, x134, h169)).bind fun (x170, x171, x172, x173, x174, x175, x176, x177, x178, x179, x180, x181, x182, x183, x184, _) =>
 Option.bind (α := (V × V × V × V × V × V × V × V × V × V × Int × Int × V × H)) (locF true ks14 rs14 (F14 N) ((x138, h169) : V × H)) fun (x185, x186, x187, x188, x189, x190, x191, x192, x193, x194, x195, x196, x197, h198) =>
 (if (x143 != 1) = true then (
 some (true, h198))
 else (
 some ((x147 != 1), h198))).bind fun (b199, h200) =>
 (if b199 = true then (
 some (true, h200))
 else (
 some ((x168 != 1), h200))).bind fun (b201, h202) =>
 (if b201 = true then (
 some (true, h202))
 else (
 some ((x184 != 1), h202))).bind fun (b203, h204) =>
 (if b203 = true then (
 some (true, h204))
 else (
 Option.bind (α := (Int × Int × (Nat × Nat) × ByteArray × Int × Int × V × H)) (scalF ks16 rs16 (F16 100) ([] : H)) fun (x207, x208, x209, x210, x211, x212, x213, _) =>
 (F15 N (x138, x133, x134, x207, x208, (x209.1, x209.2), x210, x211, x212, x213, h204)).bind fun (x214, _) =>
 some ((x214 != 1), h204))).bind fun (b205, h206) =>
 (if b205 = true then (
 some (true, h206))
 else (
 (F17 N (x138, x130, h206)).bind fun (x217, _) =>
 some ((x217 != 1), h206))).bind fun (b215, h216) =>
 (if b215 = true then (
 some (true, h216))
 else (
 (F18 N (x138, x133, x134, h216)).bind fun (x220, _) =>
 some ((x220 != 1), h216))).bind fun (b218, h219) =>
 (if b218 = true then (
 some (true, h219))
 else (
 (F19 N (x138, x133, x134, h219)).bind fun (x223, _) =>
 some ((x223 != 1), h219))).bind fun (b221, h222) =>
 (if b221 = true then (
 some (true, h222))
 else (
 Option.bind (α := (Int × Int × (Nat × Nat) × ByteArray × Int × Int × V × H)) (scalF ks16 rs16 (F16 100) ([] : H)) fun (x226, x227, x228, x229, x230, x231, x232, _) =>
 (F20 N (x138, x133, x134, x226, x227, (x228.1, x228.2), x229, x230, x231, x232, h222)).bind fun (x233, _) =>
 some ((x233 != 1), h222))).bind fun (b224, h225) =>
 (if b224 = true then (
 some (true, h225))
 else (
 (F21 N (x138, h225)).bind fun (x236, _) =>
 some ((x236 != 0), h225))).bind fun (b234, h235) =>
 (if b234 = true then (
 some (true, h235))
 else (
 (F22 N (x138, h235)).bind fun (x239, _) =>
 (slen x239).bind fun n240 =>
 (F23 N (x138, h235)).bind fun (x241, _) =>
 (slen x241).bind fun n242 =>
 (F24 N (x138, h235)).bind fun (x243, _) =>
 (slen x243).bind fun n244 =>
 Option.bind (α := (V × H)) (locF true ks25 rs25 (F25 N) ((x138, h235) : V × H)) fun (x245, h246) =>
 (slen x245).bind fun n247 =>
 (F26 N (x138, x130, h246)).bind fun (x248, _) =>
 some ((decide ((IntKind.i64.wrap ((IntKind.i64.wrap ((IntKind.i64.wrap ((IntKind.i64.wrap (n240 + n242)) + n244)) + n247)) + x248)) > 0)), h246))).bind fun (b237, h238) =>
 (if b237 = true then (
 some (true, h238))
 else (
 (slen x189).bind fun n251 =>
 (slen x185).bind fun n252 =>
 some ((decide ((IntKind.i64.wrap (n251 + n252)) > 0)), h238))).bind fun (b249, h250) =>
 (if b249 = true then (
 some (true, h250))
 else (
 (F27 N (x138, h250)).bind fun (x255, _) =>
 (isNil x255).bind fun b256 =>
 some ((!b256), h250))).bind fun (b253, h254) =>
 (if b253 = true then (
 none)
 else (
 L4_0 N n (x130, x131, (IntKind.i64.wrap (x132 + 1)), x133, x134, h254))))
 else (
 some h135))
def F4 (N : Nat) : Int × Int × Int × H → Option (Bool × H)
 | (a0_0, a0_1, a1, h) =>
 (some (h ++ [O.cells 0 [.nils, .nils, .nilp, .nilp, .nilp, .nils, .nilm, (.int .i64 0), (.int .i64 0), .nils, .nilp, .nils, (.int .i64 0), .nils]]) : Option H).bind fun h1 =>
 (some (h1 ++ [O.cells 0 [.nilp, (.ptr (h).length 0 0)]]) : Option H).bind fun h2 =>
 (L4_0 N N (a1, (.sl (h1).length 0 0 2 1 (some 2)), 0, a0_0, a0_1, h2)).bind fun h257 =>
 (F28 2000 []).bind fun (x258, _) =>
 some (x258, h257)
abbrev ks4 : List SK := [.agg [(.int .i64), (.int .i64)], .one (.int .i64)]
abbrev rs4 : List SK := [.one .bool]
def e4 (N : Nat) : Env := ⟨Tryz.prog, 149, inTab [2, 10, 12, 14, 16], inTab [], natTab [(2, 2), (10, 10), (12, 12), (14, 14), (16, 16), (134, 16), (137, 16)], inTab [], calTab [(10, .gro (mkFun ks10 rs10 (F10 N))), (9, .full (mkFun ks9 rs9 (F9 N))), (11, .full (mkFun ks11 rs11 (F11 N))), (12, .full (mkFun ks12 rs12 (F12 N))), (13, .ro (mkFun ks13 rs13 (F13 N))), (14, .gro (mkFun ks14 rs14 (locF true ks14 rs14 (F14 N)))), (16, .pure (mkP ks16 rs16 (scalF ks16 rs16 (F16 100)))), (15, .ro (mkFun ks15 rs15 (F15 N))), (17, .ro (mkFun ks17 rs17 (F17 N))), (18, .ro (mkFun ks18 rs18 (F18 N))), (19, .ro (mkFun ks19 rs19 (F19 N))), (20, .ro (mkFun ks20 rs20 (F20 N))), (21, .ro (mkFun ks21 rs21 (F21 N))), (22, .ro (mkFun ks22 rs22 (F22 N))), (23, .ro (mkFun ks23 rs23 (F23 N))), (24, .ro (mkFun ks24 rs24 (F24 N))), (25, .gro (mkFun ks25 rs25 (locF true ks25 rs25 (F25 N)))), (26, .ro (mkFun ks26 rs26 (F26 N))), (27, .ro (mkFun ks27 rs27 (F27 N))), (28, .pure (mkP ks28 rs28 (F28 2000)))], altTab [], loopTab [(3, ⟨⟨.normal, [1, 2, 5, 6], [.one (.int .i64), .lp 2 0, .one .ref, .one (.int .i64)], [2], [.cells [(.int .i64), (.int .i64)]]⟩, [⟨(.exit 0), [], [], [], []⟩], L4_0 N⟩)], natTab [], inTab [12]⟩
theorem l4_0 (N : Nat) : ∀ A, (e4 N).lp (lid (loopAt Tryz.f4 0)) = some A → LoopOk (e4 N) N (loopAt Tryz.f4 0) A :=
  loopOk_of (A := ⟨⟨.normal, [1, 2, 5, 6], [.one (.int .i64), .lp 2 0, .one .ref, .one (.int .i64)], [2], [.cells [(.int .i64), (.int .i64)]]⟩, [⟨(.exit 0), [], [], [], []⟩], L4_0 N⟩) (by kernel_rfl) (fun _ => rfl) (fun _ _ => by kernel_rfl)
theorem lk4 (N : Nat) (g0 : H → Option (ByteArray × V × H)) (g1 : V × ByteArray × V × H → Option (Int × Int × H)) (g2 : V × Int × Int × Int × Int × V × H → Option (Int × Int × Int × H)) (g3 : V × Int × Int × H → Option (Bool × V × V × Int × Int × Int × Int × Int × Int × Int × Int × (Nat × Nat) × ByteArray × Int × Int × V × Int × Int × V × Int × H)) (g4 : V × Int × Int × H → Option (Int × Int × ByteArray × Int × Int × Int × Int × Bool × Bool × Int × Int × Int × V × V × Int × H)) (g5 : V × H → Option (V × V × V × V × V × V × V × V × V × V × Int × Int × V × H)) (g6 : H → Option (Int × Int × (Nat × Nat) × ByteArray × Int × Int × V × H)) (g7 : V × Int × Int × Int × Int × (Nat × Nat) × ByteArray × Int × Int × V × H → Option (Int × H)) (g8 : V × Int × H → Option (Int × H)) (g9 : V × Int × Int × H → Option (Int × H)) (g10 : V × Int × Int × H → Option (Int × H)) (g11 : V × Int × Int × Int × Int × (Nat × Nat) × ByteArray × Int × Int × V × H → Option (Int × H)) (g12 : V × H → Option (Int × H)) (g13 : V × H → Option (V × H)) (g14 : V × H → Option (V × H)) (g15 : V × H → Option (V × H)) (g16 : V × H → Option (V × H)) (g17 : V × Int × H → Option (Int × H)) (g18 : V × H → Option (V × H)) (g19 : H → Option (Bool × H)) (g20 : Nat → Int × V × Int × Int × Int × H → Option (H)) (a0_0 : Int) (a0_1 : Int) (a1 : Int) (h : H) :
    ((some (h ++ [O.cells 0 [.nils, .nils, .nilp, .nilp, .nilp, .nils, .nilm, (.int .i64 0), (.int .i64 0), .nils, .nilp, .nils, (.int .i64 0), .nils]]) : Option H).bind fun h1 =>
(some (h1 ++ [O.cells 0 [.nilp, (.ptr (h).length 0 0)]]) : Option H).bind fun h2 =>
(g20 N (a1, (.sl (h1).length 0 0 2 1 (some 2)), 0, a0_0, a0_1, h2)).bind fun h257 =>
(g19 []).bind fun (x258, _) =>
some (x258, h257)) = evFT ⟨Tryz.prog, 149, inTab [2, 10, 12, 14, 16], inTab [], natTab [(2, 2), (10, 10), (12, 12), (14, 14), (16, 16), (134, 16), (137, 16)], inTab [], calTab [(10, .gro (mkFun ks10 rs10 (g0))), (9, .full (mkFun ks9 rs9 (g1))), (11, .full (mkFun ks11 rs11 (g2))), (12, .full (mkFun ks12 rs12 (g3))), (13, .ro (mkFun ks13 rs13 (g4))), (14, .gro (mkFun ks14 rs14 (locF true ks14 rs14 (F14 N)))), (16, .pure (mkP ks16 rs16 (scalF ks16 rs16 (F16 100)))), (15, .ro (mkFun ks15 rs15 (g7))), (17, .ro (mkFun ks17 rs17 (g8))), (18, .ro (mkFun ks18 rs18 (g9))), (19, .ro (mkFun ks19 rs19 (g10))), (20, .ro (mkFun ks20 rs20 (g11))), (21, .ro (mkFun ks21 rs21 (g12))), (22, .ro (mkFun ks22 rs22 (g13))), (23, .ro (mkFun ks23 rs23 (g14))), (24, .ro (mkFun ks24 rs24 (g15))), (25, .gro (mkFun ks25 rs25 (locF true ks25 rs25 (F25 N)))), (26, .ro (mkFun ks26 rs26 (g17))), (27, .ro (mkFun ks27 rs27 (g18))), (28, .pure (mkP ks28 rs28 (g19)))], altTab [], loopTab [(3, ⟨⟨.normal, [1, 2, 5, 6], [.one (.int .i64), .lp 2 0, .one .ref, .one (.int .i64)], [2], [.cells [(.int .i64), (.int .i64)]]⟩, [⟨(.exit 0), [], [], [], []⟩], g20⟩)], natTab [], inTab [12]⟩ N Tryz.f4 ks4 rs4 (a0_0, a0_1, a1, h) := by kernel_rfl
theorem fine4 (N : Nat) : Fine (e4 N) N 4 Tryz.f4 ks4 rs4 (F4 N) :=
  ⟨Tryz.func4, by kernel_rfl, by kernel_rfl, by kernel_rfl, loops_of ⟨l4_0 N, trivial⟩, by kernel_rfl, by kernel_rfl, fun ⟨a0_0, a0_1, a1, h⟩ => lk4 N (F10 N) (F9 N) (F11 N) (F12 N) (F13 N) (locF true ks14 rs14 (F14 N)) (scalF ks16 rs16 (F16 100)) (F15 N) (F17 N) (F18 N) (F19 N) (F20 N) (F21 N) (F22 N) (F23 N) (F24 N) (locF true ks25 rs25 (F25 N)) (F26 N) (F27 N) (F28 2000) (L4_0 N) a0_0 a0_1 a1 h⟩
theorem good4 (N : Nat) : Go.L.Good (e4 N) := good_of ⟨gdg10 N, ⟨gd9 N, ⟨gd11 N, ⟨gd12 N, ⟨gd13 N, ⟨gl14 N, ⟨gd16, ⟨gd15 N, ⟨gd17 N, ⟨gd18 N, ⟨gd19 N, ⟨gd20 N, ⟨gd21 N, ⟨gd22 N, ⟨gd23 N, ⟨gd24 N, ⟨gl25 N, ⟨gd26 N, ⟨gd27 N, ⟨gd28, trivial⟩⟩⟩⟩⟩⟩⟩⟩⟩⟩⟩⟩⟩⟩⟩⟩⟩⟩⟩⟩
theorem gd4 (N : Nat) : CalOk Tryz.prog 4 (.full (mkFun ks4 rs4 (F4 N))) := mkFun_good (fine4 N) (good4 N)


end
end Go.Proofs.YtgipaccfnlklcaaGreat
