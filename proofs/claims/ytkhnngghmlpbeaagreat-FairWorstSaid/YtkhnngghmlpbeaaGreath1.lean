/- The functions that the law reaches, as plain ones (printed by gen.py). -/
import Derived.Test.YtkhnngghmlpbeaaGreatt0
set_option linter.unusedVariables false
set_option maxRecDepth 100000
namespace Go.Proofs.YtkhnngghmlpbeaaGreat
noncomputable section
open Go.L

/-! ### 247: carouselref11.Next -/
def F247 (N : Nat) : ByteArray × V × V × V × H → Option (V × V × Int × Int × Int × (Nat × Nat) × ByteArray × Int × Int × V × Int × Int × (Nat × Nat) × ByteArray × Int × Int × V × V × Int × Int × Int × V × Int × Int × H)
 | (a0_0, a0_1, a1_0, a1_1, h) =>
 Option.bind (α := (V × V × Int × Int × Int × (Nat × Nat) × ByteArray × Int × Int × V × Int × Int × (Nat × Nat) × ByteArray × Int × Int × V × V × Int × Int × Int × V × Int × Int × H)) (locF false ks314 rs314 (tabG ks314 rs314 TB314) ((a0_0, a0_1, a1_0, a1_1, h) : ByteArray × V × V × V × H)) fun (x1, x2, x3, x4, x5, x6, x7, x8, x9, x10, x11, x12, x13, x14, x15, x16, x17, x18, x19, x20, x21, x22, x23, x24, h25) =>
 some (x1, x2, x3, x4, x5, (x6.1, x6.2), x7, x8, x9, x10, x11, x12, (x13.1, x13.2), x14, x15, x16, x17, x18, x19, x20, x21, x22, x23, x24, h25)
abbrev ks247 : List SK := [.agg [.str, .ref], .agg [.ref, .ref]]
abbrev rs247 : List SK := [.agg [.ref, .ref, (.int .i64), (.int .i64), (.int .i64), (.cplx .f64), .str, (.int .i64), (.int .i64), .ref, (.int .i64), (.int .i64), (.cplx .f64), .str, (.int .i64), (.int .i64), .ref, .ref, (.int .i64), (.int .i64), (.int .i64), .ref, (.int .i64), (.int .i64)]]
def e247 (N : Nat) : Env := ⟨Tryz.prog, 22, inTab [2, 3, 4, 5, 6], inTab [], natTab [(2, 2), (3, 3), (4, 4), (5, 5), (6, 6)], inTab [], calTab [(314, .full (mkFun ks314 rs314 (locF false ks314 rs314 (tabG ks314 rs314 TB314))))], altTab [], loopTab [], natTab [], inTab []⟩
theorem fine247 (N : Nat) : Fine (e247 N) N 247 Tryz.f247 ks247 rs247 (F247 N) :=
  ⟨Tryz.func247, by kernel_rfl, by kernel_rfl, by kernel_rfl, loops_of trivial, by kernel_rfl, by kernel_rfl, fun _ => by kernel_rfl⟩
theorem good247 (N : Nat) : Go.L.Good (e247 N) := good_of ⟨gt314, trivial⟩
theorem gd247 (N : Nat) : CalOk Tryz.prog 247 (.full (mkFun ks247 rs247 (F247 N))) := mkFun_good (fine247 N) (good247 N)

/-! ### 197: carouselref11.Begun -/
def F197 (N : Nat) : ByteArray × V × V × V × Int × Int × Int × (Nat × Nat) × ByteArray × Int × Int × V × Int × Int × H → Option (V × V × Int × Int × Int × (Nat × Nat) × ByteArray × Int × Int × V × Int × Int × Int × Int × Int × (Nat × Nat) × ByteArray × Int × Int × V × Int × Int × (Nat × Nat) × ByteArray × Int × Int × V × V × Int × Int × Int × V × H)
 | (a0_0, a0_1, a1_0, a1_1, a1_2, a1_3, a1_4, a1_5, a1_6, a1_7, a1_8, a1_9, a1_10, a1_11, h) =>
 (F247 N (a0_0, a0_1, a1_0, a1_1, h)).bind fun (x1, x2, x3, x4, x5, x6, x7, x8, x9, x10, x11, x12, x13, x14, x15, x16, x17, x18, x19, x20, x21, x22, x23, x24, h25) =>
 (if (x24 != 0) = true then (
 none)
 else (
 (F249 N (x3, x4, x5, (x6.1, x6.2), x7, x8, x9, x10, x11, x12, (x13.1, x13.2), x14, x15, x16, x17, x18, x19, x20, x21, x22, h25)).bind fun (x26, x27, x28, x29, x30, x31, x32, x33, x34, _) =>
 (if x34 = true then (
 none)
 else (
 some (x1, x2, a1_2, a1_3, a1_4, (a1_5.1, a1_5.2), a1_6, a1_7, a1_8, a1_9, (IntKind.i64.wrap (a1_10 + 1)), (IntKind.i64.wrap (a1_11 + x23)), x3, x4, x5, (x6.1, x6.2), x7, x8, x9, x10, x11, x12, (x13.1, x13.2), x14, x15, x16, x17, x18, x19, x20, x21, x22, h25)))))
abbrev ks197 : List SK := [.agg [.str, .ref], .agg [.ref, .ref, (.int .i64), (.int .i64), (.int .i64), (.cplx .f64), .str, (.int .i64), (.int .i64), .ref, (.int .i64), (.int .i64)]]
abbrev rs197 : List SK := [.agg [.ref, .ref, (.int .i64), (.int .i64), (.int .i64), (.cplx .f64), .str, (.int .i64), (.int .i64), .ref, (.int .i64), (.int .i64)], .agg [(.int .i64), (.int .i64), (.int .i64), (.cplx .f64), .str, (.int .i64), (.int .i64), .ref, (.int .i64), (.int .i64), (.cplx .f64), .str, (.int .i64), (.int .i64), .ref, .ref, (.int .i64), (.int .i64), (.int .i64), .ref]]
def e197 (N : Nat) : Env := ⟨Tryz.prog, 62, inTab [2, 3, 4, 5, 6, 8], inTab [], natTab [(2, 2), (3, 3), (4, 4), (5, 5), (6, 6), (8, 8), (11, 3), (14, 3), (15, 3), (18, 3), (19, 3), (20, 6), (23, 3), (24, 3), (27, 3), (28, 3), (30, 6), (34, 3), (35, 3), (37, 6), (40, 3), (41, 3), (42, 6), (44, 3), (46, 6), (54, 3), (55, 3), (57, 3), (58, 3), (60, 6)], inTab [], calTab [(247, .full (mkFun ks247 rs247 (F247 N))), (249, .ro (mkFun ks249 rs249 (F249 N)))], altTab [], loopTab [], natTab [], inTab [4, 5, 10, 11]⟩
theorem fine197 (N : Nat) : Fine (e197 N) N 197 Tryz.f197 ks197 rs197 (F197 N) :=
  ⟨Tryz.func197, by kernel_rfl, by kernel_rfl, by kernel_rfl, loops_of trivial, by kernel_rfl, by kernel_rfl, fun _ => by kernel_rfl⟩
theorem good197 (N : Nat) : Go.L.Good (e197 N) := good_of ⟨gd247 N, ⟨gd249 N, trivial⟩⟩
theorem gd197 (N : Nat) : CalOk Tryz.prog 197 (.full (mkFun ks197 rs197 (F197 N))) := mkFun_good (fine197 N) (good197 N)

/-! ### 137: carouselref21.Node).Runs -/
def L137_0 (N : Nat) : Nat → V × Int × Int × Int × Int × Int × (Nat × Nat) × ByteArray × Int × Int × V × Int × Int × ByteArray × V × V × V × Int × Int × Int × (Nat × Nat) × ByteArray × Int × Int × V × Int × Int × H → Option (V × Int × Int × Int × Int × Int × (Nat × Nat) × ByteArray × Int × Int × V × Int × Int × V × V × Int × Int × Int × (Nat × Nat) × ByteArray × Int × Int × V × Int × Int × H)
 | 0, _ => none
 | n + 1, (x78, x79, x80, x81, x82, x83, x84, x85, x86, x87, x88, x89, x90, x91, x92, x93, x94, x95, x96, x97, x98, x99, x100, x101, x102, x103, x104, h105) =>
 (if (x95 == 0) = true then (
 (F196 N (x93, x94, x95, x96, x97, (x98.1, x98.2), x99, x100, x101, x102, x103, x104, 64, h105)).bind fun (x106, _) =>
 (if x106 = true then (
 L137_0 N n (x78, x79, x80, x81, x82, x83, (x84.1, x84.2), x85, x86, x87, x88, x89, x90, x91, x92, x93, x94, 1, x96, x97, (x98.1, x98.2), x99, x100, x101, x102, x103, x104, h105))
 else (
 (F197 N (x91, x92, x93, x94, x95, x96, x97, (x98.1, x98.2), x99, x100, x101, x102, x103, x104, h105)).bind fun (x107, x108, x109, x110, x111, x112, x113, x114, x115, x116, x117, x118, x119, x120, x121, x122, x123, x124, x125, x126, x127, x128, x129, x130, x131, x132, x133, x134, x135, x136, x137, x138, h139) =>
 (if (x109 != 0) = true then (
 some (true, h139))
 else (
 some ((x119 == 1), h139))).bind fun (b140, h141) =>
 (if b140 = true then (
 L137_0 N n (x78, x79, x80, x81, x82, x83, (x84.1, x84.2), x85, x86, x87, x88, x89, x90, x91, x92, x107, x108, x109, x110, x111, (x112.1, x112.2), x113, x114, x115, x116, x117, x118, h141))
 else (
 none)))))
 else (
 some (x78, x79, x80, x81, x82, x83, (x84.1, x84.2), x85, x86, x87, x88, x89, x90, x93, x94, x95, x96, x97, (x98.1, x98.2), x99, x100, x101, x102, x103, x104, h105)))
def F137 (N : Nat) : V × Int × Int × H → Option (Int × Int × Int × (Nat × Nat) × ByteArray × Int × Int × V × Int × Int × H)
 | (a0, a1_0, a1_1, h) =>
 (F130 N (a0, a1_0, a1_1, h)).bind fun (x1, _) =>
 (nck a0).bind fun _ =>
 ((rd h (padd a0 1) 0)).bind fun x2 =>
 (nck a0).bind fun _ =>
 ((rd h (padd a0 13) 0)).bind fun x3 =>
 (sidx x3 x1 16).bind fun q4 =>
 (L.asInt .i64 (rd h (padd q4 4) 0)).bind fun x5 =>
 (sidx x2 x5 2).bind fun q6 =>
 (L.asStr (rd h q6 0)).bind fun x7 =>
 ((rd h q6 1)).bind fun x8 =>
 (nck a0).bind fun _ =>
 ((rd h (padd a0 13) 0)).bind fun x9 =>
 (sidx x9 x1 16).bind fun q10 =>
 ((rd h (padd q10 5) 0)).bind fun x11 =>
 ((rd h (padd q10 5) 1)).bind fun x12 =>
 (slen x11).bind fun n13 =>
 (if (n13 == 0) = true then (
 none)
 else (
 (L137_0 N N (a0, a1_0, a1_1, 0, 0, 0, (0, 0), (ByteArray.mk #[]), 0, 0, .nils, 0, 0, x7, x8, x11, x12, 0, 0, 0, (0, 0), (ByteArray.mk #[]), 0, 0, .nils, 0, 0, h)).bind fun (x142, x143, x144, x145, x146, x147, x148, x149, x150, x151, x152, x153, x154, x155, x156, x157, x158, x159, x160, x161, x162, x163, x164, x165, x166, h167) =>
 (F130 N (x142, x143, x144, h167)).bind fun (x168, _) =>
 (nck x142).bind fun _ =>
 ((rd h167 (padd x142 13) 0)).bind fun x169 =>
 (sidx x169 x168 16).bind fun q170 =>
 (wr h167 (padd q170 5) [x155, x156]).bind fun h171 =>
 (nck x142).bind fun _ =>
 ((rd h171 (padd x142 13) 0)).bind fun x172 =>
 (nck x142).bind fun _ =>
 ((rd h171 (padd x142 13) 0)).bind fun x173 =>
 (sidx x173 x168 16).bind fun q174 =>
 (L.asInt .i64 (rd h171 (padd q174 14) 0)).bind fun x175 =>
 (F133 100 (x175, x166, [])).bind fun (x176, _) =>
 (sidx x172 x168 16).bind fun q177 =>
 (wr h171 (padd q177 14) [(.int .i64 x176)]).bind fun h178 =>
 some (x157, x158, x159, (x160.1, x160.2), x161, x162, x163, x164, x165, x166, h178)))
abbrev ks137 : List SK := [.one .ref, .agg [(.int .i64), (.int .i64)]]
abbrev rs137 : List SK := [.agg [(.int .i64), (.int .i64), (.int .i64), (.cplx .f64), .str, (.int .i64), (.int .i64), .ref, (.int .i64), (.int .i64)]]
def e137 (N : Nat) : Env := ⟨Tryz.prog, 144, inTab [3, 4, 6, 7, 8, 9, 10, 94], inTab [], natTab [(3, 3), (4, 4), (6, 6), (7, 7), (8, 8), (9, 9), (10, 10), (37, 7), (38, 7), (42, 7), (44, 7), (45, 7), (50, 7), (51, 7), (59, 7), (60, 7), (64, 9), (72, 9), (76, 9), (80, 10), (119, 7), (136, 7), (137, 7), (142, 7)], inTab [], calTab [(130, .ro (mkFun ks130 rs130 (F130 N))), (196, .ro (mkFun ks196 rs196 (F196 N))), (197, .full (mkFun ks197 rs197 (F197 N))), (133, .pure (mkP ks133 rs133 (F133 100)))], altTab [], loopTab [(6, ⟨⟨.normal, [0, 3, 4, 6, 7], [.one .ref, .lp 3 0, .lp 4 0, .lp 6 0, .lp 7 0], [3, 4, 6, 7], [.cells [(.int .i64), (.int .i64)], .cells [(.int .i64), (.int .i64), (.int .i64), (.cplx .f64), .str, (.int .i64), (.int .i64), .ref, (.int .i64), (.int .i64)], .cells [.str, .ref], .cells [.ref, .ref, (.int .i64), (.int .i64), (.int .i64), (.cplx .f64), .str, (.int .i64), (.int .i64), .ref, (.int .i64), (.int .i64)]]⟩, [⟨(.exit 0), [0, 3, 4, 7], [.one .ref, .lp 3 0, .lp 4 0, .lp 7 0], [3, 4, 7], [.cells [(.int .i64), (.int .i64)], .cells [(.int .i64), (.int .i64), (.int .i64), (.cplx .f64), .str, (.int .i64), (.int .i64), .ref, (.int .i64), (.int .i64)], .cells [.ref, .ref, (.int .i64), (.int .i64), (.int .i64), (.cplx .f64), .str, (.int .i64), (.int .i64), .ref, (.int .i64), (.int .i64)]]⟩], L137_0 N⟩)], natTab [], inTab [5, 12, 13, 14, 15, 16, 17]⟩
theorem l137_0 (N : Nat) : ∀ A, (e137 N).lp (lid (loopAt Tryz.f137 0)) = some A → LoopOk (e137 N) N (loopAt Tryz.f137 0) A :=
  loopOk_of (A := ⟨⟨.normal, [0, 3, 4, 6, 7], [.one .ref, .lp 3 0, .lp 4 0, .lp 6 0, .lp 7 0], [3, 4, 6, 7], [.cells [(.int .i64), (.int .i64)], .cells [(.int .i64), (.int .i64), (.int .i64), (.cplx .f64), .str, (.int .i64), (.int .i64), .ref, (.int .i64), (.int .i64)], .cells [.str, .ref], .cells [.ref, .ref, (.int .i64), (.int .i64), (.int .i64), (.cplx .f64), .str, (.int .i64), (.int .i64), .ref, (.int .i64), (.int .i64)]]⟩, [⟨(.exit 0), [0, 3, 4, 7], [.one .ref, .lp 3 0, .lp 4 0, .lp 7 0], [3, 4, 7], [.cells [(.int .i64), (.int .i64)], .cells [(.int .i64), (.int .i64), (.int .i64), (.cplx .f64), .str, (.int .i64), (.int .i64), .ref, (.int .i64), (.int .i64)], .cells [.ref, .ref, (.int .i64), (.int .i64), (.int .i64), (.cplx .f64), .str, (.int .i64), (.int .i64), .ref, (.int .i64), (.int .i64)]]⟩], L137_0 N⟩) (by kernel_rfl) (fun _ => rfl) (fun _ _ => by kernel_rfl)
theorem fine137 (N : Nat) : Fine (e137 N) N 137 Tryz.f137 ks137 rs137 (F137 N) :=
  ⟨Tryz.func137, by kernel_rfl, by kernel_rfl, by kernel_rfl, loops_of ⟨l137_0 N, trivial⟩, by kernel_rfl, by kernel_rfl, fun _ => by kernel_rfl⟩
theorem good137 (N : Nat) : Go.L.Good (e137 N) := good_of ⟨gd130 N, ⟨gd196 N, ⟨gd197 N, ⟨gd133, trivial⟩⟩⟩⟩
theorem gd137 (N : Nat) : CalOk Tryz.prog 137 (.full (mkFun ks137 rs137 (F137 N))) := mkFun_good (fine137 N) (good137 N)

/-! ### 72: carouselref21.Node).turn -/
def F72 (N : Nat) : V × Int × Int × H → Option (Bool × V × V × Int × Int × Int × Int × Int × Int × Int × Int × (Nat × Nat) × ByteArray × Int × Int × V × Int × Int × V × H)
 | (a0, a1, a2, h) =>
 (F132 N (a0, a1, h)).bind fun (x1, x2, h3) =>
 (ck1 x1).bind fun _ =>
 (ck1 x2).bind fun _ =>
 (nck a0).bind fun _ =>
 ((rd h3 (padd a0 11) 0)).bind fun x4 =>
 (nck a0).bind fun _ =>
 ((rd h3 (padd a0 11) 0)).bind fun x5 =>
 (sidx x5 a1 1).bind fun q6 =>
 (L.asInt .i64 (rd h3 q6 0)).bind fun x7 =>
 (F133 100 (x7, 1, [])).bind fun (x8, _) =>
 (sidx x4 a1 1).bind fun q9 =>
 (wr h3 q9 [(.int .i64 x8)]).bind fun h10 =>
 (nck a0).bind fun _ =>
 ((rd h10 (padd a0 9) 0)).bind fun x11 =>
 (sidx x11 a1 5).bind fun q12 =>
 (rdN h10 q12 5).bind fun cs13 =>
 (F134 N (cs13, h10)).bind fun (x14, _) =>
 (if x14 = true then (
 none)
 else (
 (nck a0).bind fun _ =>
 ((rd h10 (padd a0 9) 0)).bind fun x15 =>
 (sidx x15 a1 5).bind fun q16 =>
 (rdN h10 q16 5).bind fun cs17 =>
 (F136 N (cs17, h10)).bind fun (cs18, x19, x20, x21, x22, x23, h24) =>
 (L.asAgg 5 (some (.agg cs18))).bind fun cs25 =>
 (if (cs25).length = 5 then (
 (if 0 + (cs25).length ≤ 5 then (
 (nck a0).bind fun _ =>
 ((rd h24 (padd a0 9) 0)).bind fun x26 =>
 ((if 0 + 5 ≤ ((splice [.nils, (.int .i64 0), .nils, .nils, .nils] 0 cs25)).length then some ((((splice [.nils, (.int .i64 0), .nils, .nils, .nils] 0 cs25)).drop 0).take 5) else none) : Option (List V)).bind fun cs27 =>
 (sidx x26 a1 5).bind fun q28 =>
 (if (cs27).length = 5 then (
 (wr h24 q28 cs27).bind fun h29 =>
 (F130 N (a0, x19, x20, h29)).bind fun (x30, _) =>
 (nck a0).bind fun _ =>
 ((rd h29 (padd a0 13) 0)).bind fun x31 =>
 (sidx x31 x30 16).bind fun q32 =>
 (wr h29 (padd q32 13) [(.bool false)]).bind fun h33 =>
 (nck a0).bind fun _ =>
 (wr h33 (padd a0 53) [(.int .i64 0)]).bind fun h34 =>
 (nck a0).bind fun _ =>
 (wr h34 (padd a0 54) [.nils]).bind fun h35 =>
 (F137 N (a0, x19, x20, h35)).bind fun (x36, x37, x38, x39, x40, x41, x42, x43, x44, x45, h46) =>
 (nck a0).bind fun _ =>
 ((rd h46 (padd a0 54) 0)).bind fun x47 =>
 (ck1 x47).bind fun _ =>
 (F131 N (a0, 3, a1, x19, x20, x44, x45, h46)).bind fun h48 =>
 (F138 N (a0, x19, x20, x36, x37, x38, (x39.1, x39.2), x40, x41, x42, x43, x44, x45, h48)).bind fun h49 =>
 some (false, x1, x2, (-1), x22, 0, x19, x20, x36, x37, x38, (x39.1, x39.2), x40, x41, x42, x43, x44, x45, x47, h49)) else none)) else none)) else none)))
abbrev ks72 : List SK := [.one .ref, .one (.int .i64), .one (.int .i64)]
abbrev rs72 : List SK := [.agg [.bool, .ref, .ref, (.int .i64), (.int .i64), (.int .i64), (.int .i64), (.int .i64), (.int .i64), (.int .i64), (.int .i64), (.cplx .f64), .str, (.int .i64), (.int .i64), .ref, (.int .i64), (.int .i64), .ref]]
def e72 (N : Nat) : Env := ⟨Tryz.prog, 153, inTab [6, 7, 12, 13], inTab [], natTab [(6, 6), (7, 7), (12, 12), (13, 13), (25, 7), (27, 7), (77, 7), (80, 7), (82, 7), (104, 13), (115, 7), (116, 13), (118, 7), (126, 13), (129, 7), (134, 7), (137, 13), (139, 7), (140, 7), (142, 7), (143, 7), (147, 13), (149, 7)], inTab [], calTab [(132, .full (mkFun ks132 rs132 (F132 N))), (133, .pure (mkP ks133 rs133 (F133 100))), (134, .ro (mkFun ks134 rs134 (F134 N))), (136, .full (mkFun ks136 rs136 (F136 N))), (130, .ro (mkFun ks130 rs130 (F130 N))), (137, .full (mkFun ks137 rs137 (F137 N))), (131, .full (mkFun ks131 rs131 (F131 N))), (138, .full (mkFun ks138 rs138 (F138 N)))], altTab [], loopTab [], natTab [], inTab [7, 8, 9, 10, 11, 12, 13, 14]⟩
theorem fine72 (N : Nat) : Fine (e72 N) N 72 Tryz.f72 ks72 rs72 (F72 N) :=
  ⟨Tryz.func72, by kernel_rfl, by kernel_rfl, by kernel_rfl, loops_of trivial, by kernel_rfl, by kernel_rfl, fun _ => by kernel_rfl⟩
theorem good72 (N : Nat) : Go.L.Good (e72 N) := good_of ⟨gd132 N, ⟨gd133, ⟨gd134 N, ⟨gd136 N, ⟨gd130 N, ⟨gd137 N, ⟨gd131 N, ⟨gd138 N, trivial⟩⟩⟩⟩⟩⟩⟩⟩
theorem gd72 (N : Nat) : CalOk Tryz.prog 72 (.full (mkFun ks72 rs72 (F72 N))) := mkFun_good (fine72 N) (good72 N)

/-! ### 39: carouselref21.Node).Turn -/
def F39 (N : Nat) : V × Int × Int × H → Option (Bool × V × V × Int × Int × Int × Int × Int × Int × Int × Int × (Nat × Nat) × ByteArray × Int × Int × V × Int × Int × V × Int × H)
 | (a0, a1, a2, h) =>
 (F67 N (a0, h)).bind fun (x1, _) =>
 (if x1 = true then (
 none)
 else (
 (nck a0).bind fun _ =>
 ((rd h (padd a0 9) 0)).bind fun x2 =>
 (slen x2).bind fun n3 =>
 (F70 100 (a1, n3, [])).bind fun (x4, x5, _) =>
 (nck a0).bind fun _ =>
 ((rd h (padd a0 9) 0)).bind fun x6 =>
 (slen x6).bind fun n7 =>
 (F70 100 (a2, n7, [])).bind fun (x8, x9, _) =>
 (F72 N (a0, x4, x8, h)).bind fun (x10, x11, x12, x13, x14, x15, x16, x17, x18, x19, x20, x21, x22, x23, x24, x25, x26, x27, x28, h29) =>
 (F69 N (a0, [(.int .i64 5), (.int .i64 x4), (.int .i64 0), (.int .i64 0), (.int .i64 0), (.int .i64 0), (.int .i64 0), .nils, (.int .i64 x8), (.bool x10), x11, x12, (.int .i64 x13), (.int .i64 x14), (.int .i64 x15), (.int .i64 x16), (.int .i64 x17), (.int .i64 x18), (.int .i64 x19), (.int .i64 x20), (.cplx .f64 x21.1 x21.2), (.str x22), (.int .i64 x23), (.int .i64 x24), x25, (.int .i64 x26), (.int .i64 x27), x28, .nils], h29)).bind fun h30 =>
 some (x10, x11, x12, x13, x14, x15, x16, x17, x18, x19, x20, (x21.1, x21.2), x22, x23, x24, x25, x26, x27, x28, 0, h30)))
abbrev ks39 : List SK := [.one .ref, .one (.int .i64), .one (.int .i64)]
abbrev rs39 : List SK := [.agg [.bool, .ref, .ref, (.int .i64), (.int .i64), (.int .i64), (.int .i64), (.int .i64), (.int .i64), (.int .i64), (.int .i64), (.cplx .f64), .str, (.int .i64), (.int .i64), .ref, (.int .i64), (.int .i64), .ref], .one (.int .i64)]
def e39 (N : Nat) : Env := ⟨Tryz.prog, 47, inTab [6, 12], inTab [], natTab [(6, 6), (12, 12)], inTab [], calTab [(67, .ro (mkFun ks67 rs67 (F67 N))), (70, .pure (mkP ks70 rs70 (F70 100))), (72, .full (mkFun ks72 rs72 (F72 N))), (69, .full (mkFun ks69 rs69 (F69 N)))], altTab [], loopTab [], natTab [], inTab [2]⟩
theorem fine39 (N : Nat) : Fine (e39 N) N 39 Tryz.f39 ks39 rs39 (F39 N) :=
  ⟨Tryz.func39, by kernel_rfl, by kernel_rfl, by kernel_rfl, loops_of trivial, by kernel_rfl, by kernel_rfl, fun _ => by kernel_rfl⟩
theorem good39 (N : Nat) : Go.L.Good (e39 N) := good_of ⟨gd67 N, ⟨gd70, ⟨gd72 N, ⟨gd69 N, trivial⟩⟩⟩⟩
theorem gd39 (N : Nat) : CalOk Tryz.prog 39 (.full (mkFun ks39 rs39 (F39 N))) := mkFun_good (fine39 N) (good39 N)
theorem gl39 (N : Nat) : CalOk Tryz.prog 39 (.full (mkFun ks39 rs39 (locF false ks39 rs39 (F39 N)))) := loc_full (gd39 N)

/-! ### 423: timer.Wheel).Due -/
def F423 (N : Nat) : V × H → Option (V × H)
 | (a0, h) =>
 (F294 N (a0, h)).bind fun (x1, _) =>
 (if (!x1) = true then (
 none)
 else (
 Option.bind (α := (V × H)) (locF false ks296 rs296 (tabG ks296 rs296 TB296) ((a0, h) : V × H)) fun (x2, h3) =>
 (nck a0).bind fun _ =>
 ((rd h3 (padd a0 259) 0)).bind fun x4 =>
 (slen x4).bind fun n5 =>
 (slen x2).bind fun n6 =>
 (ssl 12 x2 0 n5).bind fun v7 =>
 (nck a0).bind fun _ =>
 (wr h3 (padd a0 259) [.nils]).bind fun h8 =>
 (F295 N (v7, h8)).bind fun (x9, _) =>
 some (x9, h8)))
abbrev ks423 : List SK := [.one .ref]
abbrev rs423 : List SK := [.one .ref]
def e423 (N : Nat) : Env := ⟨Tryz.prog, 21, inTab [], inTab [], natTab [], inTab [], calTab [(294, .ro (mkFun ks294 rs294 (F294 N))), (296, .full (mkFun ks296 rs296 (locF false ks296 rs296 (tabG ks296 rs296 TB296)))), (295, .ro (mkFun ks295 rs295 (F295 N)))], altTab [], loopTab [], natTab [], inTab [2]⟩
theorem fine423 (N : Nat) : Fine (e423 N) N 423 Tryz.f423 ks423 rs423 (F423 N) :=
  ⟨Tryz.func423, by kernel_rfl, by kernel_rfl, by kernel_rfl, loops_of trivial, by kernel_rfl, by kernel_rfl, fun _ => by kernel_rfl⟩
theorem good423 (N : Nat) : Go.L.Good (e423 N) := good_of ⟨gd294 N, ⟨gt296, ⟨gd295 N, trivial⟩⟩⟩
theorem gd423 (N : Nat) : CalOk Tryz.prog 423 (.full (mkFun ks423 rs423 (F423 N))) := mkFun_good (fine423 N) (good423 N)

/-! ### 220: node.Node).all -/
def L220_0 (N : Nat) : Nat → V × V × V × Int × Int × H → Option (V × H)
 | 0, _ => none
 | n + 1, (x20, x21, x22, x23, x24, h25) =>
 (if (decide (x24 < x23)) = true then (
 (sidx x22 x24 2).bind fun q26 =>
 (L.asInt .i64 (rd h25 q26 0)).bind fun x27 =>
 (L.asInt .i64 (rd h25 q26 1)).bind fun x28 =>
 (nck x20).bind fun _ =>
 ((rd h25 (padd x20 6) 0)).bind fun x29 =>
 (hmap h25 x29).bind fun es30 =>
 (mlook (.int .i64 x27) es30).bind fun q31 =>
 ((some (Option.getD q31 .nilp))).bind fun x32 =>
 (ck1 x32).bind fun _ =>
 (happ h25 x21 1 1 (List.flatMap V.cells [x32])).bind fun (v33, h34) =>
 L220_0 N n (x20, v33, x22, x23, (IntKind.i64.wrap (x24 + 1)), h34))
 else (
 some (x21, h25)))
def F220 (N : Nat) : V × H → Option (V × H)
 | (a0, h) =>
 (nck a0).bind fun _ =>
 ((rd h (padd a0 2) 0)).bind fun x1 =>
 Option.bind (α := (V × H)) (locF false ks287 rs287 (tabG ks287 rs287 TB287) ((x1, h) : V × H)) fun (x2, h3) =>
 (slen x2).bind fun n4 =>
 (L220_0 N N (a0, .nils, x2, n4, 0, h3)).bind fun (x35, h36) =>
 some (x35, h36)
abbrev ks220 : List SK := [.one .ref]
abbrev rs220 : List SK := [.one .ref]
def e220 (N : Nat) : Env := ⟨Tryz.prog, 28, inTab [5, 24], inTab [], natTab [(5, 5), (21, 5)], inTab [], calTab [(287, .full (mkFun ks287 rs287 (locF false ks287 rs287 (tabG ks287 rs287 TB287))))], altTab [], loopTab [(3, ⟨⟨.normal, [0, 3, 10, 11, 12], [.one .ref, .one .ref, .one .ref, .one (.int .i64), .one (.int .i64)], [], []⟩, [⟨(.exit 0), [3], [.one .ref], [], []⟩], L220_0 N⟩)], natTab [], inTab []⟩
theorem l220_0 (N : Nat) : ∀ A, (e220 N).lp (lid (loopAt Tryz.f220 0)) = some A → LoopOk (e220 N) N (loopAt Tryz.f220 0) A :=
  loopOk_of (A := ⟨⟨.normal, [0, 3, 10, 11, 12], [.one .ref, .one .ref, .one .ref, .one (.int .i64), .one (.int .i64)], [], []⟩, [⟨(.exit 0), [3], [.one .ref], [], []⟩], L220_0 N⟩) (by kernel_rfl) (fun _ => rfl) (fun _ _ => by kernel_rfl)
theorem fine220 (N : Nat) : Fine (e220 N) N 220 Tryz.f220 ks220 rs220 (F220 N) :=
  ⟨Tryz.func220, by kernel_rfl, by kernel_rfl, by kernel_rfl, loops_of ⟨l220_0 N, trivial⟩, by kernel_rfl, by kernel_rfl, fun _ => by kernel_rfl⟩
theorem good220 (N : Nat) : Go.L.Good (e220 N) := good_of ⟨gt287, trivial⟩
theorem gd220 (N : Nat) : CalOk Tryz.prog 220 (.full (mkFun ks220 rs220 (F220 N))) := mkFun_good (fine220 N) (good220 N)

/-! ### 359: node.Node).fires -/
def L359_0 (N : Nat) : Nat → V × Int × V × Int × Int × H → Option (V × Int × V × H)
 | 0, _ => none
 | n + 1, (x13, x14, x15, x16, x17, h18) =>
 (if (decide (x17 < x16)) = true then (
 none)
 else (
 some (x13, x14, x15, h18)))
def L359_1 (N : Nat) : Nat → V × Int × V × V × V × Int × Int × H → Option (V × V × H)
 | 0, _ => none
 | n + 1, (x47, x48, x49, x50, x51, x52, x53, h54) =>
 (if (decide (x53 < x52)) = true then (
 (sidx x51 x53 1).bind fun q55 =>
 ((rd h54 q55 0)).bind fun x56 =>
 (nck x56).bind fun _ =>
 (L.asInt .i64 (rd h54 (padd x56 3) 0)).bind fun x57 =>
 (if (x57 == x48) = true then (
 (nck x56).bind fun _ =>
 (L.asInt .i64 (rd h54 (padd x56 7) 0)).bind fun x60 =>
 some ((x60 == 2), h54))
 else (
 some (false, h54))).bind fun (b58, h59) =>
 (if b58 = true then (
 (nck x56).bind fun _ =>
 (L.asInt .i64 (rd h59 (padd x56 11) 0)).bind fun x63 =>
 some ((decide (x63 ≥ 0)), h59))
 else (
 some (false, h59))).bind fun (b61, h62) =>
 (if b61 = true then (
 (nck x56).bind fun _ =>
 (L.asInt .i64 (rd h62 (padd x56 11) 0)).bind fun x66 =>
 (nck x47).bind fun _ =>
 (L.asInt .i64 (rd h62 (padd x47 7) 0)).bind fun x67 =>
 some ((decide (x66 ≤ x67)), h62))
 else (
 some (false, h62))).bind fun (b64, h65) =>
 (if b64 = true then (
 none)
 else (
 L359_1 N n (x47, x48, x49, x50, x51, x52, (IntKind.i64.wrap (x53 + 1)), h65))))
 else (
 some (x49, x50, h54)))
def L359_2 (N : Nat) : Nat → V × V × Int × Int × H → Option (V × V × H)
 | 0, _ => none
 | n + 1, (x78, x79, x80, x81, h82) =>
 (if (decide (x81 < x80)) = true then (
 none)
 else (
 some (x78, x79, h82)))
def F359 (N : Nat) : V × Int × H → Option (V × V × H)
 | (a0, a1, h) =>
 (nck a0).bind fun _ =>
 ((rd h (padd a0 5) 0)).bind fun x1 =>
 (sidx x1 a1 4).bind fun q2 =>
 ((rd h (padd q2 1) 0)).bind fun x3 =>
 (F423 N (x3, h)).bind fun (x4, h5) =>
 (slen x4).bind fun n6 =>
 (L359_0 N N (a0, a1, .nils, n6, 0, h5)).bind fun (x19, x20, x21, h22) =>
 (F220 N (x19, h22)).bind fun (x23, h24) =>
 (slen x23).bind fun n25 =>
 (L359_1 N N (x19, x20, x21, .nils, x23, n25, 0, h24)).bind fun (x68, x69, h70) =>
 (F424 N (x69, (.fn 425 []), h70)).bind fun h71 =>
 (slen x69).bind fun n72 =>
 (L359_2 N N (x68, .nils, n72, 0, h71)).bind fun (x83, x84, h85) =>
 some (x83, x84, h85)
abbrev ks359 : List SK := [.one .ref, .one (.int .i64)]
abbrev rs359 : List SK := [.one .ref, .one .ref]
def e359 (N : Nat) : Env := ⟨Tryz.prog, 112, inTab [8, 32, 88, 104], inTab [], natTab [(8, 8), (30, 8), (36, 8), (38, 8), (42, 8), (44, 8)], inTab [], calTab [(423, .full (mkFun ks423 rs423 (F423 N))), (220, .full (mkFun ks220 rs220 (F220 N))), (424, .gro (mkFun ks424 rs424 (F424 N)))], altTab [], loopTab [(3, ⟨⟨.normal, [0, 1, 6, 24, 25], [.one .ref, .one (.int .i64), .one .ref, .one (.int .i64), .one (.int .i64)], [], []⟩, [⟨(.exit 0), [0, 1, 6], [.one .ref, .one (.int .i64), .one .ref], [], []⟩], L359_0 N⟩), (11, ⟨⟨.normal, [0, 1, 6, 9, 49, 50, 51], [.one .ref, .one (.int .i64), .one .ref, .one .ref, .one .ref, .one (.int .i64), .one (.int .i64)], [], []⟩, [⟨(.exit 2), [6, 9], [.one .ref, .one .ref], [], []⟩], L359_1 N⟩), (19, ⟨⟨.normal, [6, 12, 94, 95], [.one .ref, .one .ref, .one (.int .i64), .one (.int .i64)], [], []⟩, [⟨(.exit 4), [6, 12], [.one .ref, .one .ref], [], []⟩], L359_2 N⟩)], natTab [], inTab [4, 5, 6, 7, 8, 14, 20, 21, 22, 23]⟩
theorem l359_0 (N : Nat) : ∀ A, (e359 N).lp (lid (loopAt Tryz.f359 0)) = some A → LoopOk (e359 N) N (loopAt Tryz.f359 0) A :=
  loopOk_of (A := ⟨⟨.normal, [0, 1, 6, 24, 25], [.one .ref, .one (.int .i64), .one .ref, .one (.int .i64), .one (.int .i64)], [], []⟩, [⟨(.exit 0), [0, 1, 6], [.one .ref, .one (.int .i64), .one .ref], [], []⟩], L359_0 N⟩) (by kernel_rfl) (fun _ => rfl) (fun _ _ => by kernel_rfl)
theorem l359_1 (N : Nat) : ∀ A, (e359 N).lp (lid (loopAt Tryz.f359 1)) = some A → LoopOk (e359 N) N (loopAt Tryz.f359 1) A :=
  loopOk_of (A := ⟨⟨.normal, [0, 1, 6, 9, 49, 50, 51], [.one .ref, .one (.int .i64), .one .ref, .one .ref, .one .ref, .one (.int .i64), .one (.int .i64)], [], []⟩, [⟨(.exit 2), [6, 9], [.one .ref, .one .ref], [], []⟩], L359_1 N⟩) (by kernel_rfl) (fun _ => rfl) (fun _ _ => by kernel_rfl)
theorem l359_2 (N : Nat) : ∀ A, (e359 N).lp (lid (loopAt Tryz.f359 2)) = some A → LoopOk (e359 N) N (loopAt Tryz.f359 2) A :=
  loopOk_of (A := ⟨⟨.normal, [6, 12, 94, 95], [.one .ref, .one .ref, .one (.int .i64), .one (.int .i64)], [], []⟩, [⟨(.exit 4), [6, 12], [.one .ref, .one .ref], [], []⟩], L359_2 N⟩) (by kernel_rfl) (fun _ => rfl) (fun _ _ => by kernel_rfl)
theorem fine359 (N : Nat) : Fine (e359 N) N 359 Tryz.f359 ks359 rs359 (F359 N) :=
  ⟨Tryz.func359, by kernel_rfl, by kernel_rfl, by kernel_rfl, loops_of ⟨l359_0 N, ⟨l359_1 N, ⟨l359_2 N, trivial⟩⟩⟩, by kernel_rfl, by kernel_rfl, fun _ => by kernel_rfl⟩
theorem good359 (N : Nat) : Go.L.Good (e359 N) := good_of ⟨gd423 N, ⟨gd220 N, ⟨gdg424 N, trivial⟩⟩⟩
theorem gd359 (N : Nat) : CalOk Tryz.prog 359 (.full (mkFun ks359 rs359 (F359 N))) := mkFun_good (fine359 N) (good359 N)

/-! ### 443: slice.run -/
def L443_0 (N : Nat) : Nat → V × Int × ByteArray × V × Int × Int × Int × (Nat × Nat) × ByteArray × Int × Int × V × Int × Int × Int × Int × Int × (Nat × Nat) × ByteArray × Int × Int × V × Int × Int × H → Option (V × Int × Int × Int × (Nat × Nat) × ByteArray × Int × Int × V × Int × Int × H)
 | 0, _ => none
 | n + 1, (x72, x73, x74, x75, x76, x77, x78, x79, x80, x81, x82, x83, x84, x85, x86, x87, x88, x89, x90, x91, x92, x93, x94, x95, h96) =>
 (if (decide (x95 > (IntKind.i64.wrap (x73 - 8)))) = true then (
 some (.nils, 1, x87, x88, (x89.1, x89.2), x90, x91, x92, x93, x94, x95, h96))
 else (
 Option.bind (α := (Int × Int × Int × (Nat × Nat) × ByteArray × Int × Int × V × Int × Int × (Nat × Nat) × ByteArray × Int × Int × V × V × Int × Int × Int × V × Int × Int × H)) (locF false ks5 rs5 (tabG ks5 rs5 TB5) ((x74, x75, x72, h96) : ByteArray × V × V × H)) fun (x97, x98, x99, x100, x101, x102, x103, x104, x105, x106, x107, x108, x109, x110, x111, x112, x113, x114, x115, x116, x117, x118, h119) =>
 (if (x118 != 0) = true then (
 none)
 else (
 (if (x97 == 1) = true then (
 L443_0 N n (x72, x73, x74, x75, x76, x77, x78, (x79.1, x79.2), x80, x81, x82, x83, x84, x85, x86, x87, x88, (x89.1, x89.2), x90, x91, x92, x93, (IntKind.i64.wrap (x94 + 1)), (IntKind.i64.wrap (x95 + x117)), h119))
 else (
 none))))))
def F443 (N : Nat) : ByteArray × V × V × Int × V × H → Option (Int × Int × Int × (Nat × Nat) × ByteArray × Int × Int × V × Int × Int × V × H)
 | (a0_0, a0_1, a1, a2, a3, h) =>
 (if (decide (0 > (IntKind.i64.wrap (a2 - 8)))) = true then (
 some (1, 0, 0, (0, 0), (ByteArray.mk #[]), 0, 0, .nils, 0, 0, .nils, h))
 else (
 Option.bind (α := (Int × Int × Int × (Nat × Nat) × ByteArray × Int × Int × V × Int × Int × (Nat × Nat) × ByteArray × Int × Int × V × V × Int × Int × Int × V × Int × Int × H)) (locF false ks5 rs5 (tabG ks5 rs5 TB5) ((a0_0, a0_1, a1, h) : ByteArray × V × V × H)) fun (x1, x2, x3, x4, x5, x6, x7, x8, x9, x10, x11, x12, x13, x14, x15, x16, x17, x18, x19, x20, x21, x22, h23) =>
 (if (x22 != 0) = true then (
 none)
 else (
 (if (x1 == 1) = true then (
 (L443_0 N N (a1, a2, a0_0, a0_1, 0, 0, 0, (0, 0), (ByteArray.mk #[]), 0, 0, .nils, 0, 0, 0, 0, 0, (0, 0), (ByteArray.mk #[]), 0, 0, .nils, (IntKind.i64.wrap (0 + 1)), (IntKind.i64.wrap (0 + x21)), h23)).bind fun (x120, x121, x122, x123, x124, x125, x126, x127, x128, x129, x130, h131) =>
 some (x121, x122, x123, (x124.1, x124.2), x125, x126, x127, x128, x129, x130, x120, h131))
 else (
 none))))))
abbrev ks443 : List SK := [.agg [.str, .ref], .one .ref, .one (.int .i64), .one .ref]
abbrev rs443 : List SK := [.agg [(.int .i64), (.int .i64), (.int .i64), (.cplx .f64), .str, (.int .i64), (.int .i64), .ref, (.int .i64), (.int .i64)], .one .ref]
def e443 (N : Nat) : Env := ⟨Tryz.prog, 87, inTab [4, 8, 10, 11, 12], inTab [], natTab [(4, 4), (8, 8), (10, 10), (11, 11), (12, 12), (15, 10), (20, 10), (29, 10), (32, 10), (35, 10), (38, 10), (39, 10), (43, 10), (44, 12), (50, 12), (52, 10), (53, 10), (55, 12), (60, 12), (64, 11), (68, 10), (77, 12), (80, 10), (84, 10), (85, 10)], inTab [], calTab [(5, .full (mkFun ks5 rs5 (locF false ks5 rs5 (tabG ks5 rs5 TB5))))], altTab [], loopTab [(1000000, ⟨⟨.normal, [1, 2, 4, 8, 10], [.one .ref, .one (.int .i64), .lp 4 0, .lp 8 0, .lp 10 0], [4, 8, 10], [.cells [.str, .ref], .cells [(.int .i64), (.int .i64), (.int .i64), (.cplx .f64), .str, (.int .i64), (.int .i64), .ref, (.int .i64), (.int .i64)], .cells [(.int .i64), (.int .i64), (.int .i64), (.cplx .f64), .str, (.int .i64), (.int .i64), .ref, (.int .i64), (.int .i64)]]⟩, [⟨.ret, [8, 9], [.lp 8 0, .one .ref], [8], [.cells [(.int .i64), (.int .i64), (.int .i64), (.cplx .f64), .str, (.int .i64), (.int .i64), .ref, (.int .i64), (.int .i64)]]⟩], L443_0 N⟩)], natTab [], inTab [9, 13, 14, 15, 16, 17, 18, 19, 20, 21, 22, 23, 24, 25, 26]⟩
theorem l443_0 (N : Nat) : ∀ A, (e443 N).lp (lbKey 0) = some A → LabelOk (e443 N) N 0 (loopAt Tryz.f443 0) A :=
  labelOk_of (A := ⟨⟨.normal, [1, 2, 4, 8, 10], [.one .ref, .one (.int .i64), .lp 4 0, .lp 8 0, .lp 10 0], [4, 8, 10], [.cells [.str, .ref], .cells [(.int .i64), (.int .i64), (.int .i64), (.cplx .f64), .str, (.int .i64), (.int .i64), .ref, (.int .i64), (.int .i64)], .cells [(.int .i64), (.int .i64), (.int .i64), (.cplx .f64), .str, (.int .i64), (.int .i64), .ref, (.int .i64), (.int .i64)]]⟩, [⟨.ret, [8, 9], [.lp 8 0, .one .ref], [8], [.cells [(.int .i64), (.int .i64), (.int .i64), (.cplx .f64), .str, (.int .i64), (.int .i64), .ref, (.int .i64), (.int .i64)]]⟩], L443_0 N⟩) (by kernel_rfl) (fun _ => rfl) (fun _ _ => by kernel_rfl)
theorem lv443_1 (N : Nat) : ∀ A, (e443 N).lp (lbKey 1) = some A → LabelOk (e443 N) N 1 (loopAt Tryz.f443 1) A := fun A h => by
 rw [show (e443 N).lp (lbKey 1) = none by kernel_rfl] at h; cases h
theorem fine443 (N : Nat) : Fine (e443 N) N 443 Tryz.f443 ks443 rs443 (F443 N) :=
  ⟨Tryz.func443, by kernel_rfl, by kernel_rfl, by kernel_rfl, loops_of ⟨l443_0 N, ⟨lv443_1 N, trivial⟩⟩, by kernel_rfl, by kernel_rfl, fun _ => by kernel_rfl⟩
theorem good443 (N : Nat) : Go.L.Good (e443 N) := good_of ⟨gt5, trivial⟩
theorem gd443 (N : Nat) : CalOk Tryz.prog 443 (.full (mkFun ks443 rs443 (F443 N))) := mkFun_good (fine443 N) (good443 N)

/-! ### 364: slice.Run -/
def F364 (N : Nat) : ByteArray × V × V × Int × V × H → Option (Int × Int × Int × (Nat × Nat) × ByteArray × Int × Int × V × Int × Int × Int × H)
 | (a0_0, a0_1, a1, a2, a3, h) =>
 (if (decide (a2 < 8)) = true then (
 some (true, h))
 else (
 some ((decide (a2 > 1048576)), h))).bind fun (b1, h2) =>
 (if b1 = true then (
 some (true, h2))
 else (
 (isNilF a3).bind fun b5 =>
 some (b5, h2))).bind fun (b3, h4) =>
 (if b3 = true then (
 some (true, h4))
 else (
 Option.bind (α := (V × H)) (locF true ks42 rs42 (F42 N) ((a1, h4) : V × H)) fun (x8, h9) =>
 (isNil x8).bind fun b10 =>
 some (b10, h9))).bind fun (b6, h7) =>
 (if b6 = true then (
 none)
 else (
 (F56 N (a0_0, a0_1, h7)).bind fun (x11, x12, x13, h14) =>
 (if (x11 != 0) = true then (
 none)
 else (
 (F25 N (a1, h14)).bind fun (x15, _) =>
 (if (x15 == 0) = true then (
 none)
 else (
 (F443 N (a0_0, a0_1, a1, a2, a3, h14)).bind fun (x16, x17, x18, x19, x20, x21, x22, x23, x24, x25, x26, h27) =>
 some (x16, x17, x18, (x19.1, x19.2), x20, x21, x22, x23, x24, x25, 0, h27)))))))
abbrev ks364 : List SK := [.agg [.str, .ref], .one .ref, .one (.int .i64), .one .ref]
abbrev rs364 : List SK := [.agg [(.int .i64), (.int .i64), (.int .i64), (.cplx .f64), .str, (.int .i64), (.int .i64), .ref, (.int .i64), (.int .i64)], .one (.int .i64)]
def e364 (N : Nat) : Env := ⟨Tryz.prog, 54, inTab [4, 8, 13], inTab [], natTab [(4, 4), (8, 8), (13, 13)], inTab [], calTab [(42, .gro (mkFun ks42 rs42 (locF true ks42 rs42 (F42 N)))), (56, .full (mkFun ks56 rs56 (F56 N))), (25, .ro (mkFun ks25 rs25 (F25 N))), (443, .full (mkFun ks443 rs443 (F443 N)))], altTab [], loopTab [], natTab [], inTab [2, 5, 7]⟩
theorem fine364 (N : Nat) : Fine (e364 N) N 364 Tryz.f364 ks364 rs364 (F364 N) :=
  ⟨Tryz.func364, by kernel_rfl, by kernel_rfl, by kernel_rfl, loops_of trivial, by kernel_rfl, by kernel_rfl, fun _ => by kernel_rfl⟩
theorem good364 (N : Nat) : Go.L.Good (e364 N) := good_of ⟨gl42 N, ⟨gd56 N, ⟨gd25 N, ⟨gd443 N, trivial⟩⟩⟩⟩
theorem gd364 (N : Nat) : CalOk Tryz.prog 364 (.full (mkFun ks364 rs364 (F364 N))) := mkFun_good (fine364 N) (good364 N)

/-! ### 273: node.Node).turn -/
def F273 (N : Nat) : V × Int × Int × H → Option (Bool × V × V × Int × Int × Int × Int × Int × Int × Int × Int × (Nat × Nat) × ByteArray × Int × Int × V × Int × Int × V × H)
 | (a0, a1, a2, h) =>
 (F359 N (a0, a1, h)).bind fun (x1, x2, h3) =>
 (ck1 x1).bind fun _ =>
 (ck1 x2).bind fun _ =>
 (nck a0).bind fun _ =>
 ((rd h3 (padd a0 5) 0)).bind fun x4 =>
 (sidx x4 a1 4).bind fun q5 =>
 (L.asInt .i64 (rd h3 (padd q5 2) 0)).bind fun x6 =>
 (wr h3 (padd q5 2) [(.int .i64 (if 4611686018427387903 < (IntKind.i64.wrap (x6 + 1)) then 4611686018427387903 else (IntKind.i64.wrap (x6 + 1))))]).bind fun h7 =>
 ((rd h7 (padd q5 0) 0)).bind fun x8 =>
 (F360 N (x8, h7)).bind fun (x9, _) =>
 (if x9 = true then (
 none)
 else (
 ((rd h7 (padd q5 0) 0)).bind fun x10 =>
 (F362 N (x10, h7)).bind fun (x11, x12, x13, x14, x15, h16) =>
 (F268 N (a0, x11, x12, h16)).bind fun (x17, _) =>
 (nck x17).bind fun _ =>
 (wr h16 (padd x17 9) [(.bool false)]).bind fun h18 =>
 (nck a0).bind fun _ =>
 (wr h18 (padd a0 12) [(.int .i64 0)]).bind fun h19 =>
 (nck a0).bind fun _ =>
 (wr h19 (padd a0 13) [.nils]).bind fun h20 =>
 (F363 N (a0, x17, h20)).bind fun (x21, h22) =>
 (nck a0).bind fun _ =>
 ((rd h22 (padd a0 1) 0)).bind fun x23 =>
 (nck x17).bind fun _ =>
 (L.asInt .i64 (rd h22 (padd x17 4) 0)).bind fun x24 =>
 (sidx x23 x24 2).bind fun q25 =>
 (L.asStr (rd h22 q25 0)).bind fun x26 =>
 ((rd h22 q25 1)).bind fun x27 =>
 (nck x17).bind fun _ =>
 ((rd h22 (padd x17 5) 0)).bind fun x28 =>
 (F364 N (x26, x27, x28, 64, x21, h22)).bind fun (x29, x30, x31, x32, x33, x34, x35, x36, x37, x38, x39, h40) =>
 (nck a0).bind fun _ =>
 ((rd h40 (padd a0 13) 0)).bind fun x41 =>
 (ck1 x41).bind fun _ =>
 (nck x17).bind fun _ =>
 (L.asInt .i64 (rd h40 (padd x17 10) 0)).bind fun x42 =>
 (nck x17).bind fun _ =>
 (wr h40 (padd x17 10) [(.int .i64 (if 4611686018427387903 < (IntKind.i64.wrap (x42 + x38)) then 4611686018427387903 else (IntKind.i64.wrap (x42 + x38))))]).bind fun h43 =>
 (F270 N (a0, 3, a1, x11, x12, x37, x38, h43)).bind fun h44 =>
 (if (x29 == 1) = true then (
 (F276 N (a0, x17, h44)).bind fun h45 =>
 some (false, x1, x2, (-1), x14, 0, x11, x12, x29, x30, x31, (x32.1, x32.2), x33, x34, x35, x36, x37, x38, x41, h45))
 else (
 none))))
abbrev ks273 : List SK := [.one .ref, .one (.int .i64), .one (.int .i64)]
abbrev rs273 : List SK := [.agg [.bool, .ref, .ref, (.int .i64), (.int .i64), (.int .i64), (.int .i64), (.int .i64), (.int .i64), (.int .i64), (.int .i64), (.cplx .f64), .str, (.int .i64), (.int .i64), .ref, (.int .i64), (.int .i64), .ref]]
def e273 (N : Nat) : Env := ⟨Tryz.prog, 167, inTab [6, 7, 9], inTab [], natTab [(6, 6), (7, 7), (9, 9), (21, 7), (22, 7), (47, 7), (48, 7), (64, 7), (67, 7), (78, 9), (85, 9), (87, 7), (88, 7), (117, 7), (122, 7), (128, 7), (129, 7), (137, 9), (139, 7), (140, 7), (142, 7), (143, 7), (146, 7), (147, 7), (150, 9), (152, 7), (153, 7)], inTab [], calTab [(359, .full (mkFun ks359 rs359 (F359 N))), (360, .ro (mkFun ks360 rs360 (F360 N))), (362, .full (mkFun ks362 rs362 (F362 N))), (268, .ro (mkFun ks268 rs268 (F268 N))), (363, .full (mkFun ks363 rs363 (F363 N))), (364, .full (mkFun ks364 rs364 (F364 N))), (270, .full (mkFun ks270 rs270 (F270 N))), (276, .full (mkFun ks276 rs276 (F276 N)))], altTab [], loopTab [], natTab [], inTab [6, 7, 8, 9, 10, 11, 12, 24, 27, 28]⟩
theorem fine273 (N : Nat) : Fine (e273 N) N 273 Tryz.f273 ks273 rs273 (F273 N) :=
  ⟨Tryz.func273, by kernel_rfl, by kernel_rfl, by kernel_rfl, loops_of trivial, by kernel_rfl, by kernel_rfl, fun _ => by kernel_rfl⟩
theorem good273 (N : Nat) : Go.L.Good (e273 N) := good_of ⟨gd359 N, ⟨gd360 N, ⟨gd362 N, ⟨gd268 N, ⟨gd363 N, ⟨gd364 N, ⟨gd270 N, ⟨gd276 N, trivial⟩⟩⟩⟩⟩⟩⟩⟩
theorem gd273 (N : Nat) : CalOk Tryz.prog 273 (.full (mkFun ks273 rs273 (F273 N))) := mkFun_good (fine273 N) (good273 N)

/-! ### 209: node.Node).Turn -/
def F209 (N : Nat) : V × Int × Int × H → Option (Bool × V × V × Int × Int × Int × Int × Int × Int × Int × Int × (Nat × Nat) × ByteArray × Int × Int × V × Int × Int × V × Int × H)
 | (a0, a1, a2, h) =>
 (F263 N (a0, h)).bind fun (x1, _) =>
 (if (x1 != 0) = true then (
 none)
 else (
 (nck a0).bind fun _ =>
 ((rd h (padd a0 5) 0)).bind fun x2 =>
 (slen x2).bind fun n3 =>
 (F266 100 (a1, n3, [])).bind fun (x4, x5, _) =>
 (nck a0).bind fun _ =>
 ((rd h (padd a0 5) 0)).bind fun x6 =>
 (slen x6).bind fun n7 =>
 (F266 100 (a2, n7, [])).bind fun (x8, x9, _) =>
 (F273 N (a0, x4, x8, h)).bind fun (x10, x11, x12, x13, x14, x15, x16, x17, x18, x19, x20, x21, x22, x23, x24, x25, x26, x27, x28, h29) =>
 (F274 N (x10, x11, x12, x13, x14, x15, x16, x17, x18, x19, x20, (x21.1, x21.2), x22, x23, x24, x25, x26, x27, x28, h29)).bind fun (x30, x31, x32, x33, x34, x35, x36, x37, x38, x39, x40, x41, x42, x43, x44, x45, x46, x47, x48, h49) =>
 (F265 N (a0, [(.int .i64 5), (.int .i64 x4), (.int .i64 0), (.int .i64 0), (.int .i64 0), (.int .i64 0), (.int .i64 0), .nils, (.int .i64 x8), (.bool x30), x31, x32, (.int .i64 x33), (.int .i64 x34), (.int .i64 x35), (.int .i64 x36), (.int .i64 x37), (.int .i64 x38), (.int .i64 x39), (.int .i64 x40), (.cplx .f64 x41.1 x41.2), (.str x42), (.int .i64 x43), (.int .i64 x44), x45, (.int .i64 x46), (.int .i64 x47), x48, .nils], h49)).bind fun h50 =>
 some (x10, x11, x12, x13, x14, x15, x16, x17, x18, x19, x20, (x21.1, x21.2), x22, x23, x24, x25, x26, x27, x28, 0, h50)))
abbrev ks209 : List SK := [.one .ref, .one (.int .i64), .one (.int .i64)]
abbrev rs209 : List SK := [.agg [.bool, .ref, .ref, (.int .i64), (.int .i64), (.int .i64), (.int .i64), (.int .i64), (.int .i64), (.int .i64), (.int .i64), (.cplx .f64), .str, (.int .i64), (.int .i64), .ref, (.int .i64), (.int .i64), .ref], .one (.int .i64)]
def e209 (N : Nat) : Env := ⟨Tryz.prog, 52, inTab [6, 13], inTab [], natTab [(6, 6), (13, 13)], inTab [], calTab [(263, .ro (mkFun ks263 rs263 (F263 N))), (266, .pure (mkP ks266 rs266 (F266 100))), (273, .full (mkFun ks273 rs273 (F273 N))), (274, .gro (mkFun ks274 rs274 (F274 N))), (265, .full (mkFun ks265 rs265 (F265 N)))], altTab [], loopTab [], natTab [], inTab [3]⟩
theorem fine209 (N : Nat) : Fine (e209 N) N 209 Tryz.f209 ks209 rs209 (F209 N) :=
  ⟨Tryz.func209, by kernel_rfl, by kernel_rfl, by kernel_rfl, loops_of trivial, by kernel_rfl, by kernel_rfl, fun _ => by kernel_rfl⟩
theorem good209 (N : Nat) : Go.L.Good (e209 N) := good_of ⟨gd263 N, ⟨gd266, ⟨gd273 N, ⟨gdg274 N, ⟨gd265 N, trivial⟩⟩⟩⟩⟩
theorem gd209 (N : Nat) : CalOk Tryz.prog 209 (.full (mkFun ks209 rs209 (F209 N))) := mkFun_good (fine209 N) (good209 N)
theorem gl209 (N : Nat) : CalOk Tryz.prog 209 (.full (mkFun ks209 rs209 (locF false ks209 rs209 (F209 N)))) := loc_full (gd209 N)

/-! ### 226: timer.Wheel).List -/
def F226 (N : Nat) : V × H → Option (V × H)
 | (a0, h) =>
 (F294 N (a0, h)).bind fun (x1, _) =>
 (if (!x1) = true then (
 none)
 else (
 Option.bind (α := (V × H)) (locF false ks296 rs296 (tabG ks296 rs296 TB296) ((a0, h) : V × H)) fun (x2, h3) =>
 (F295 N (x2, h3)).bind fun (x4, _) =>
 some (x4, h3)))
abbrev ks226 : List SK := [.one .ref]
abbrev rs226 : List SK := [.one .ref]
def e226 (N : Nat) : Env := ⟨Tryz.prog, 9, inTab [], inTab [], natTab [], inTab [], calTab [(294, .ro (mkFun ks294 rs294 (F294 N))), (296, .full (mkFun ks296 rs296 (locF false ks296 rs296 (tabG ks296 rs296 TB296)))), (295, .ro (mkFun ks295 rs295 (F295 N)))], altTab [], loopTab [], natTab [], inTab [2]⟩
theorem fine226 (N : Nat) : Fine (e226 N) N 226 Tryz.f226 ks226 rs226 (F226 N) :=
  ⟨Tryz.func226, by kernel_rfl, by kernel_rfl, by kernel_rfl, loops_of trivial, by kernel_rfl, by kernel_rfl, fun _ => by kernel_rfl⟩
theorem good226 (N : Nat) : Go.L.Good (e226 N) := good_of ⟨gd294 N, ⟨gt296, ⟨gd295 N, trivial⟩⟩⟩
theorem gd226 (N : Nat) : CalOk Tryz.prog 226 (.full (mkFun ks226 rs226 (F226 N))) := mkFun_good (fine226 N) (good226 N)

/-! ### 150: node.Node).Snap -/
def L150_0 (N : Nat) : Nat → V × V × Int × Int × V × V × V × V × V × V × V × V × V × V × Int × Int × V × V × V × V × V × V × V × V × V × V × V × Int × Int × V × H → Option (V × V × V × V × V × V × V × V × V × V × V × Int × Int × V × V × V × V × V × V × V × V × V × V × V × Int × Int × V × H)
 | 0, _ => none
 | n + 1, (x75, x76, x77, x78, x79, x80, x81, x82, x83, x84, x85, x86, x87, x88, x89, x90, x91, x92, x93, x94, x95, x96, x97, x98, x99, x100, x101, x102, x103, x104, h105) =>
 (if (decide (x78 < x77)) = true then (
 (sidx x76 x78 1).bind fun q106 =>
 ((rd h105 q106 0)).bind fun x107 =>
 (nck x107).bind fun _ =>
 ((rd h105 (padd x107 6) 0)).bind fun x108 =>
 (nck x107).bind fun _ =>
 ((rd h105 (padd x107 6) 0)).bind fun x109 =>
 (nck x107).bind fun _ =>
 ((rd h105 (padd x107 6) 0)).bind fun x110 =>
 (nck x107).bind fun _ =>
 (L.asInt .i64 (rd h105 (padd x107 11) 0)).bind fun x111 =>
 (F221 N (x75, x107, h105)).bind fun (x112, x113, x114, x115, x116, x117, x118, x119, x120, x121, x122, x123, x124, x125, h126) =>
 (F222 N (x108, 0, h126)).bind fun (x127, h128) =>
 (F222 N (x109, 1, h128)).bind fun (x129, h130) =>
 (F223 N (x110, h130)).bind fun (cs131, _) =>
 (L.asAgg 2 (some (.agg cs131))).bind fun cs132 =>
 (ck1 x127).bind fun _ =>
 (ck1 x129).bind fun _ =>
 (if (cs132).length = 2 then (
 (if 16 + (cs132).length ≤ 19 then (
 (if 18 + 1 ≤ ((splice [(.int .i64 x112), (.int .i64 x113), (.str x114), (.int .i64 x115), (.int .i64 x116), (.int .i64 x117), (.int .i64 x118), (.bool x119), (.bool x120), (.int .i64 x121), (.int .i64 x122), (.int .i64 x123), x124, x125, x127, x129, (.int .i64 0), (.int .i64 0), (.int .i64 0)] 16 cs132)).length then (
 (if ((splice (splice [(.int .i64 x112), (.int .i64 x113), (.str x114), (.int .i64 x115), (.int .i64 x116), (.int .i64 x117), (.int .i64 x118), (.bool x119), (.bool x120), (.int .i64 x121), (.int .i64 x122), (.int .i64 x123), x124, x125, x127, x129, (.int .i64 0), (.int .i64 0), (.int .i64 0)] 16 cs132) 18 [(.int .i64 x111)])).length = 19 then (
 (if 0 + ((splice (splice [(.int .i64 x112), (.int .i64 x113), (.str x114), (.int .i64 x115), (.int .i64 x116), (.int .i64 x117), (.int .i64 x118), (.bool x119), (.bool x120), (.int .i64 x121), (.int .i64 x122), (.int .i64 x123), x124, x125, x127, x129, (.int .i64 0), (.int .i64 0), (.int .i64 0)] 16 cs132) 18 [(.int .i64 x111)])).length ≤ 19 then (
 (scells h130 (.rs 19 (chunks 19 1 (splice [(.int .i64 0), (.int .i64 0), (.str (ByteArray.mk #[])), (.int .i64 0), (.int .i64 0), (.int .i64 0), (.int .i64 0), (.bool false), (.bool false), (.int .i64 0), (.int .i64 0), (.int .i64 0), .nils, .nils, .nils, .nils, (.int .i64 0), (.int .i64 0), (.int .i64 0)] 0 (splice (splice [(.int .i64 x112), (.int .i64 x113), (.str x114), (.int .i64 x115), (.int .i64 x116), (.int .i64 x117), (.int .i64 x118), (.bool x119), (.bool x120), (.int .i64 x121), (.int .i64 x122), (.int .i64 x123), x124, x125, x127, x129, (.int .i64 0), (.int .i64 0), (.int .i64 0)] 16 cs132) 18 [(.int .i64 x111)])))) 19).bind fun cs135 =>
 (happ h130 x94 19 (snlen (.rs 19 (chunks 19 1 (splice [(.int .i64 0), (.int .i64 0), (.str (ByteArray.mk #[])), (.int .i64 0), (.int .i64 0), (.int .i64 0), (.int .i64 0), (.bool false), (.bool false), (.int .i64 0), (.int .i64 0), (.int .i64 0), .nils, .nils, .nils, .nils, (.int .i64 0), (.int .i64 0), (.int .i64 0)] 0 (splice (splice [(.int .i64 x112), (.int .i64 x113), (.str x114), (.int .i64 x115), (.int .i64 x116), (.int .i64 x117), (.int .i64 x118), (.bool x119), (.bool x120), (.int .i64 x121), (.int .i64 x122), (.int .i64 x123), x124, x125, x127, x129, (.int .i64 0), (.int .i64 0), (.int .i64 0)] 16 cs132) 18 [(.int .i64 x111)]))))) cs135).bind fun (v133, h134) =>
 (ck1 v133).bind fun _ =>
 L150_0 N n (x75, x76, x77, (IntKind.i64.wrap (x78 + 1)), x79, x80, x81, x82, x83, x84, x85, x86, x87, x88, x89, x90, x91, x92, x93, v133, x95, x96, x97, x98, x99, x100, x101, x102, x103, x104, h134)) else none)) else none)) else none)) else none)) else none))
 else (
 some (x75, x79, x80, x81, x82, x83, x84, x85, x86, x87, x88, x89, x90, x91, x92, x93, x94, x95, x96, x97, x98, x99, x100, x101, x102, x103, x104, h105)))
def L150_2 (N : Nat) : Nat → V × V × Int × Int × Int × V × V × V × V × V × V × V × V × V × V × Int × Int × V × V × V × V × V × V × V × V × V × V × V × Int × Int × V × V × V × Int × Int × List V × H → Option (V × V × Int × Int × V × V × V × V × V × V × V × V × V × V × Int × Int × V × V × V × V × V × V × V × V × V × V × V × Int × Int × V × V × V × Int × Int × List V × H)
 | 0, _ => none
 | n + 1, (x241, x242, x243, x244, x245, x246, x247, x248, x249, x250, x251, x252, x253, x254, x255, x256, x257, x258, x259, x260, x261, x262, x263, x264, x265, x266, x267, x268, x269, x270, x271, x272, x273, x274, x275, cs276, h277) =>
 (if (decide (x245 < 3)) = true then (
 (F224 N (x272, x245, h277)).bind fun (x278, h279) =>
 (if 0 ≤ x245 then (if x245 < 3 then (
 (ck1 x278).bind fun _ =>
 (if (0 + Int.toNat x245 * 1) + 1 ≤ (cs276).length then (
 L150_2 N n (x241, x242, x243, x244, (IntKind.i64.wrap (x245 + 1)), x246, x247, x248, x249, x250, x251, x252, x253, x254, x255, x256, x257, x258, x259, x260, x261, x262, x263, x264, x265, x266, x267, x268, x269, x270, x271, x272, x273, x274, x275, (splice cs276 (0 + Int.toNat x245 * 1) [x278]), h279)) else none)) else none) else none))
 else (
 some (x241, x242, x243, x244, x246, x247, x248, x249, x250, x251, x252, x253, x254, x255, x256, x257, x258, x259, x260, x261, x262, x263, x264, x265, x266, x267, x268, x269, x270, x271, x272, x273, x274, x275, cs276, h277)))
def L150_1 (N : Nat) : Nat → V × V × Int × Int × V × V × V × V × V × V × V × V × V × V × Int × Int × V × V × V × V × V × V × V × V × V × V × V × Int × Int × V × H → Option (V × V × V × V × V × V × V × V × V × V × V × Int × Int × V × V × V × V × V × V × V × V × V × V × V × Int × Int × V × H)
 | 0, _ => none
 | n + 1, (x331, x332, x333, x334, x335, x336, x337, x338, x339, x340, x341, x342, x343, x344, x345, x346, x347, x348, x349, x350, x351, x352, x353, x354, x355, x356, x357, x358, x359, x360, h361) =>
 (if (decide (x334 < x333)) = true then (
 (sidx x332 x334 4).bind fun q362 =>
 ((rd h361 q362 0)).bind fun x363 =>
 ((rd h361 q362 1)).bind fun x364 =>
 (L.asInt .i64 (rd h361 q362 2)).bind fun x365 =>
 (L.asInt .i64 (rd h361 q362 3)).bind fun x366 =>
 (L150_2 N N (x331, x332, x333, x334, 0, x335, x336, x337, x338, x339, x340, x341, x342, x343, x344, x345, x346, x347, x348, x349, x350, x351, x352, x353, x354, x355, x356, x357, x358, x359, x360, x363, x364, x365, x366, [.nils, .nils, .nils], h361)).bind fun (x367, x368, x369, x370, x371, x372, x373, x374, x375, x376, x377, x378, x379, x380, x381, x382, x383, x384, x385, x386, x387, x388, x389, x390, x391, x392, x393, x394, x395, x396, x397, x398, x399, x400, cs401, h402) =>
 ((if 0 + 3 ≤ (cs401).length then some (((cs401).drop 0).take 3) else none) : Option (List V)).bind fun cs403 =>
 (if (cs403).length = 3 then (
 (if 0 + (cs403).length ≤ 3 then (
 (scells h402 (.rs 3 (chunks 3 1 (splice [.nils, .nils, .nils] 0 cs403))) 3).bind fun cs406 =>
 (happ h402 x388 3 (snlen (.rs 3 (chunks 3 1 (splice [.nils, .nils, .nils] 0 cs403)))) cs406).bind fun (v404, h405) =>
 (ck1 v404).bind fun _ =>
 (F225 N (x397, h405)).bind fun (x407, _) =>
 (happ h405 x389 1 1 [(.int .i64 x407)]).bind fun (v408, h409) =>
 (ck1 v408).bind fun _ =>
 (happ h409 x390 1 1 [(.int .i64 x399)]).bind fun (v410, h411) =>
 (ck1 v410).bind fun _ =>
 (happ h411 x391 1 1 [(.int .i64 x400)]).bind fun (v412, h413) =>
 (ck1 v412).bind fun _ =>
 (F226 N (x398, h413)).bind fun (x414, h415) =>
 (ck1 x414).bind fun _ =>
 (happ h415 x392 1 1 (List.flatMap V.cells [x414])).bind fun (v416, h417) =>
 (ck1 v416).bind fun _ =>
 L150_1 N n (x367, x368, x369, (IntKind.i64.wrap (x370 + 1)), x371, x372, x373, x374, x375, x376, x377, x378, x379, x380, x381, x382, x383, x384, x385, x386, x387, v404, v408, v410, v412, v416, x393, x394, x395, x396, h417)) else none)) else none))
 else (
 some (x331, x335, x336, x337, x338, x339, x340, x341, x342, x343, x344, x345, x346, x347, x348, x349, x350, x351, x352, x353, x354, x355, x356, x357, x358, x359, x360, h361)))
def F150 (N : Nat) : V × H → Option (V × V × V × V × V × V × V × V × V × V × Int × Int × V × H)
 | (a0, h) =>
 (F213 N (a0, h)).bind fun (x1, _) =>
 (if (!x1) = true then (
 none)
 else (
 (nck a0).bind fun _ =>
 ((rd h (padd a0 0) 0)).bind fun x2 =>
 (nck a0).bind fun _ =>
 ((rd h (padd a0 1) 0)).bind fun x3 =>
 (nck a0).bind fun _ =>
 ((rd h (padd a0 2) 0)).bind fun x4 =>
 Option.bind (α := (V × H)) (locF true ks140 rs140 (F140 N) ((x2, h) : V × H)) fun (x5, h6) =>
 Option.bind (α := (V × H)) (locF true ks218 rs218 (F218 N) ((x3, h6) : V × H)) fun (x7, h8) =>
 Option.bind (α := (V × H)) (locF false ks219 rs219 (tabG ks219 rs219 TB219) ((x4, h8) : V × H)) fun (x9, h10) =>
 (ck1 x5).bind fun _ =>
 (ck1 x7).bind fun _ =>
 (ck1 x9).bind fun _ =>
 (F220 N (a0, h10)).bind fun (x11, h12) =>
 (slen x11).bind fun n13 =>
 (L150_0 N N (a0, x11, n13, 0, .nils, .nils, .nils, .nils, .nils, .nils, .nils, .nils, .nils, .nils, 0, 0, .nils, x5, x7, .nils, x9, .nils, .nils, .nils, .nils, .nils, .nils, 0, 0, .nils, h12)).bind fun (x136, x137, x138, x139, x140, x141, x142, x143, x144, x145, x146, x147, x148, x149, x150, x151, x152, x153, x154, x155, x156, x157, x158, x159, x160, x161, x162, h163) =>
 (nck x136).bind fun _ =>
 ((rd h163 (padd x136 5) 0)).bind fun x164 =>
 (slen x164).bind fun n165 =>
 (L150_1 N N (x136, x164, n165, 0, x137, x138, x139, x140, x141, x142, x143, x144, x145, x146, x147, x148, x149, x150, x151, x152, x153, x154, x155, x156, x157, x158, x159, x160, x161, x162, h163)).bind fun (x418, x419, x420, x421, x422, x423, x424, x425, x426, x427, x428, x429, x430, x431, x432, x433, x434, x435, x436, x437, x438, x439, x440, x441, x442, x443, x444, h445) =>
 (nck x418).bind fun _ =>
 ((rd h445 (padd x418 4) 0)).bind fun x446 =>
 (nck x418).bind fun _ =>
 (L.asInt .i64 (rd h445 (padd x418 7) 0)).bind fun x447 =>
 (nck x418).bind fun _ =>
 (L.asInt .i64 (rd h445 (padd x418 8) 0)).bind fun x448 =>
 (nck x418).bind fun _ =>
 ((rd h445 (padd x418 9) 0)).bind fun x449 =>
 Option.bind (α := (V × H)) (locF true ks227 rs227 (F227 N) ((x446, h445) : V × H)) fun (x450, h451) =>
 (F228 N (x449, h451)).bind fun (x452, _) =>
 (ck1 x450).bind fun _ =>
 (ck1 x452).bind fun _ =>
 some (x432, x433, x434, x435, x436, x437, x438, x439, x440, x450, x447, x448, x452, h451)))
abbrev ks150 : List SK := [.one .ref]
abbrev rs150 : List SK := [.agg [.ref, .ref, .ref, .ref, .ref, .ref, .ref, .ref, .ref, .ref, (.int .i64), (.int .i64), .ref]]
def e150 (N : Nat) : Env := ⟨Tryz.prog, 147, inTab [2, 3, 7, 8, 64, 90, 98, 105, 112, 120], inTab [], natTab [(2, 2), (3, 3), (7, 7), (8, 8), (29, 3), (30, 3), (31, 3), (39, 3), (66, 3), (81, 7), (85, 8), (87, 3), (92, 3), (93, 3), (95, 7), (100, 3), (101, 3), (103, 7), (107, 3), (108, 3), (110, 7), (114, 3), (115, 3), (117, 7), (122, 3), (142, 3), (143, 3), (144, 3), (145, 3)], inTab [], calTab [(213, .ro (mkFun ks213 rs213 (F213 N))), (140, .gro (mkFun ks140 rs140 (locF true ks140 rs140 (F140 N)))), (218, .gro (mkFun ks218 rs218 (locF true ks218 rs218 (F218 N)))), (219, .full (mkFun ks219 rs219 (locF false ks219 rs219 (tabG ks219 rs219 TB219)))), (220, .full (mkFun ks220 rs220 (F220 N))), (221, .gro (mkFun ks221 rs221 (F221 N))), (222, .gro (mkFun ks222 rs222 (F222 N))), (223, .ro (mkFun ks223 rs223 (F223 N))), (224, .full (mkFun ks224 rs224 (F224 N))), (225, .ro (mkFun ks225 rs225 (F225 N))), (226, .full (mkFun ks226 rs226 (F226 N))), (227, .gro (mkFun ks227 rs227 (locF true ks227 rs227 (F227 N)))), (228, .ro (mkFun ks228 rs228 (F228 N)))], altTab [], loopTab [(6, ⟨⟨.normal, [0, 2, 3, 33, 34, 35], [.one .ref, .lp 2 0, .lp 3 0, .one .ref, .one (.int .i64), .one (.int .i64)], [2, 3], [.cells [.ref, .ref, .ref, .ref, .ref, .ref, .ref, .ref, .ref, .ref, (.int .i64), (.int .i64), .ref], .cells [.ref, .ref, .ref, .ref, .ref, .ref, .ref, .ref, .ref, .ref, (.int .i64), (.int .i64), .ref]]⟩, [⟨(.exit 0), [0, 2, 3], [.one .ref, .lp 2 0, .lp 3 0], [2, 3], [.cells [.ref, .ref, .ref, .ref, .ref, .ref, .ref, .ref, .ref, .ref, (.int .i64), (.int .i64), .ref], .cells [.ref, .ref, .ref, .ref, .ref, .ref, .ref, .ref, .ref, .ref, (.int .i64), (.int .i64), .ref]]⟩], L150_0 N⟩), (11, ⟨⟨.normal, [0, 2, 3, 71, 72, 73], [.one .ref, .lp 2 0, .lp 3 0, .one .ref, .one (.int .i64), .one (.int .i64)], [2, 3], [.cells [.ref, .ref, .ref, .ref, .ref, .ref, .ref, .ref, .ref, .ref, (.int .i64), (.int .i64), .ref], .cells [.ref, .ref, .ref, .ref, .ref, .ref, .ref, .ref, .ref, .ref, (.int .i64), (.int .i64), .ref]]⟩, [⟨(.exit 2), [0, 2, 3], [.one .ref, .lp 2 0, .lp 3 0], [2, 3], [.cells [.ref, .ref, .ref, .ref, .ref, .ref, .ref, .ref, .ref, .ref, (.int .i64), (.int .i64), .ref], .cells [.ref, .ref, .ref, .ref, .ref, .ref, .ref, .ref, .ref, .ref, (.int .i64), (.int .i64), .ref]]⟩], L150_1 N⟩), (15, ⟨⟨.normal, [0, 2, 3, 7, 8, 71, 72, 73, 77], [.one .ref, .lp 2 0, .lp 3 0, .lp 7 0, .lp 8 0, .one .ref, .one (.int .i64), .one (.int .i64), .one (.int .i64)], [2, 3, 7, 8], [.cells [.ref, .ref, .ref, .ref, .ref, .ref, .ref, .ref, .ref, .ref, (.int .i64), (.int .i64), .ref], .cells [.ref, .ref, .ref, .ref, .ref, .ref, .ref, .ref, .ref, .ref, (.int .i64), (.int .i64), .ref], .cells [.ref, .ref, (.int .i64), (.int .i64)], .blk]⟩, [⟨(.exit 4), [0, 2, 3, 7, 8, 71, 72, 73], [.one .ref, .lp 2 0, .lp 3 0, .lp 7 0, .lp 8 0, .one .ref, .one (.int .i64), .one (.int .i64)], [2, 3, 7, 8], [.cells [.ref, .ref, .ref, .ref, .ref, .ref, .ref, .ref, .ref, .ref, (.int .i64), (.int .i64), .ref], .cells [.ref, .ref, .ref, .ref, .ref, .ref, .ref, .ref, .ref, .ref, (.int .i64), (.int .i64), .ref], .cells [.ref, .ref, (.int .i64), (.int .i64)], .blk]⟩], L150_2 N⟩)], natTab [], inTab [3]⟩
theorem l150_0 (N : Nat) : ∀ A, (e150 N).lp (lid (loopAt Tryz.f150 0)) = some A → LoopOk (e150 N) N (loopAt Tryz.f150 0) A :=
  loopOk_of (A := ⟨⟨.normal, [0, 2, 3, 33, 34, 35], [.one .ref, .lp 2 0, .lp 3 0, .one .ref, .one (.int .i64), .one (.int .i64)], [2, 3], [.cells [.ref, .ref, .ref, .ref, .ref, .ref, .ref, .ref, .ref, .ref, (.int .i64), (.int .i64), .ref], .cells [.ref, .ref, .ref, .ref, .ref, .ref, .ref, .ref, .ref, .ref, (.int .i64), (.int .i64), .ref]]⟩, [⟨(.exit 0), [0, 2, 3], [.one .ref, .lp 2 0, .lp 3 0], [2, 3], [.cells [.ref, .ref, .ref, .ref, .ref, .ref, .ref, .ref, .ref, .ref, (.int .i64), (.int .i64), .ref], .cells [.ref, .ref, .ref, .ref, .ref, .ref, .ref, .ref, .ref, .ref, (.int .i64), (.int .i64), .ref]]⟩], L150_0 N⟩) (by kernel_rfl) (fun _ => rfl) (fun _ _ => by kernel_rfl)
theorem l150_1 (N : Nat) : ∀ A, (e150 N).lp (lid (loopAt Tryz.f150 1)) = some A → LoopOk (e150 N) N (loopAt Tryz.f150 1) A :=
  loopOk_of (A := ⟨⟨.normal, [0, 2, 3, 71, 72, 73], [.one .ref, .lp 2 0, .lp 3 0, .one .ref, .one (.int .i64), .one (.int .i64)], [2, 3], [.cells [.ref, .ref, .ref, .ref, .ref, .ref, .ref, .ref, .ref, .ref, (.int .i64), (.int .i64), .ref], .cells [.ref, .ref, .ref, .ref, .ref, .ref, .ref, .ref, .ref, .ref, (.int .i64), (.int .i64), .ref]]⟩, [⟨(.exit 2), [0, 2, 3], [.one .ref, .lp 2 0, .lp 3 0], [2, 3], [.cells [.ref, .ref, .ref, .ref, .ref, .ref, .ref, .ref, .ref, .ref, (.int .i64), (.int .i64), .ref], .cells [.ref, .ref, .ref, .ref, .ref, .ref, .ref, .ref, .ref, .ref, (.int .i64), (.int .i64), .ref]]⟩], L150_1 N⟩) (by kernel_rfl) (fun _ => rfl) (fun _ _ => by kernel_rfl)
theorem l150_2 (N : Nat) : ∀ A, (e150 N).lp (lid (loopAt Tryz.f150 2)) = some A → LoopOk (e150 N) N (loopAt Tryz.f150 2) A :=
  loopOk_of (A := ⟨⟨.normal, [0, 2, 3, 7, 8, 71, 72, 73, 77], [.one .ref, .lp 2 0, .lp 3 0, .lp 7 0, .lp 8 0, .one .ref, .one (.int .i64), .one (.int .i64), .one (.int .i64)], [2, 3, 7, 8], [.cells [.ref, .ref, .ref, .ref, .ref, .ref, .ref, .ref, .ref, .ref, (.int .i64), (.int .i64), .ref], .cells [.ref, .ref, .ref, .ref, .ref, .ref, .ref, .ref, .ref, .ref, (.int .i64), (.int .i64), .ref], .cells [.ref, .ref, (.int .i64), (.int .i64)], .blk]⟩, [⟨(.exit 4), [0, 2, 3, 7, 8, 71, 72, 73], [.one .ref, .lp 2 0, .lp 3 0, .lp 7 0, .lp 8 0, .one .ref, .one (.int .i64), .one (.int .i64)], [2, 3, 7, 8], [.cells [.ref, .ref, .ref, .ref, .ref, .ref, .ref, .ref, .ref, .ref, (.int .i64), (.int .i64), .ref], .cells [.ref, .ref, .ref, .ref, .ref, .ref, .ref, .ref, .ref, .ref, (.int .i64), (.int .i64), .ref], .cells [.ref, .ref, (.int .i64), (.int .i64)], .blk]⟩], L150_2 N⟩) (by kernel_rfl) (fun _ => rfl) (fun _ _ => by kernel_rfl)
theorem fine150 (N : Nat) : Fine (e150 N) N 150 Tryz.f150 ks150 rs150 (F150 N) :=
  ⟨Tryz.func150, by kernel_rfl, by kernel_rfl, by kernel_rfl, loops_of ⟨l150_0 N, ⟨l150_1 N, ⟨l150_2 N, trivial⟩⟩⟩, by kernel_rfl, by kernel_rfl, fun _ => by kernel_rfl⟩
theorem good150 (N : Nat) : Go.L.Good (e150 N) := good_of ⟨gd213 N, ⟨gl140 N, ⟨gl218 N, ⟨gt219, ⟨gd220 N, ⟨gdg221 N, ⟨gdg222 N, ⟨gd223 N, ⟨gd224 N, ⟨gd225 N, ⟨gd226 N, ⟨gl227 N, ⟨gd228 N, trivial⟩⟩⟩⟩⟩⟩⟩⟩⟩⟩⟩⟩⟩
theorem gd150 (N : Nat) : CalOk Tryz.prog 150 (.full (mkFun ks150 rs150 (F150 N))) := mkFun_good (fine150 N) (good150 N)
theorem gl150 (N : Nat) : CalOk Tryz.prog 150 (.gro (mkFun ks150 rs150 (locF true ks150 rs150 (F150 N)))) := loc_gro (gd150 N)


end
end Go.Proofs.YtkhnngghmlpbeaaGreat
