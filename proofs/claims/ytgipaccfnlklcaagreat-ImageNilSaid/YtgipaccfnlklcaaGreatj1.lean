/- The functions that the law reaches, as plain ones (printed by gen.py). -/
import Derived.Test.YtgipaccfnlklcaaGreatt1
set_option linter.unusedVariables false
set_option maxRecDepth 100000
namespace Go.Proofs.YtgipaccfnlklcaaGreat
noncomputable section
open Go.L

/-! ### 32: image.Snap -/
def L32_0 (N : Nat) : Nat → V × Int × Int × V × V × V × V × V × V × V × V × V × V × Int × Int × V × H → Option (V × V × V × V × V × V × V × V × V × V × V × Int × Int × V × H)
 | 0, _ => none
 | n + 1, (x29, x30, x31, x32, x33, x34, x35, x36, x37, x38, x39, x40, x41, x42, x43, x44, h45) =>
 (if (decide (x31 < x30)) = true then (
 none)
 else (
 some (x29, x32, x33, x34, x35, x36, x37, x38, x39, x40, x41, x42, x43, x44, h45)))
def L32_1 (N : Nat) : Nat → V × Int × Int × V × V × V × V × V × V × V × V × V × V × Int × Int × V × H → Option (V × V × V × V × V × V × V × V × V × V × V × Int × Int × V × H)
 | 0, _ => none
 | n + 1, (x81, x82, x83, x84, x85, x86, x87, x88, x89, x90, x91, x92, x93, x94, x95, x96, h97) =>
 (if (decide (x83 < x82)) = true then (
 none)
 else (
 some (x81, x84, x85, x86, x87, x88, x89, x90, x91, x92, x93, x94, x95, x96, h97)))
def L32_2 (N : Nat) : Nat → V × Int × Int × V × V × V × V × V × V × V × V × V × V × Int × Int × V × H → Option (V × V × V × V × V × V × V × V × V × V × V × Int × Int × V × H)
 | 0, _ => none
 | n + 1, (x135, x136, x137, x138, x139, x140, x141, x142, x143, x144, x145, x146, x147, x148, x149, x150, h151) =>
 (if (decide (x137 < x136)) = true then (
 (F87 N (x135, x138, x139, x140, x141, x142, x143, x144, x145, x146, x147, x148, x149, x150, x137, h151)).bind fun h152 =>
 L32_2 N n (x135, x136, (IntKind.i64.wrap (x137 + 1)), x138, x139, x140, x141, x142, x143, x144, x145, x146, x147, x148, x149, x150, h152))
 else (
 some (x135, x138, x139, x140, x141, x142, x143, x144, x145, x146, x147, x148, x149, x150, h151)))
def L32_3 (N : Nat) : Nat → V × Int × Int × V × V × V × V × V × V × V × V × V × V × Int × Int × V × H → Option (V × V × V × V × V × V × V × V × V × V × V × Int × Int × V × H)
 | 0, _ => none
 | n + 1, (x188, x189, x190, x191, x192, x193, x194, x195, x196, x197, x198, x199, x200, x201, x202, x203, h204) =>
 (if (decide (x190 < x189)) = true then (
 none)
 else (
 some (x188, x191, x192, x193, x194, x195, x196, x197, x198, x199, x200, x201, x202, x203, h204)))
def L32_4 (N : Nat) : Nat → V × Int × Int × H → Option (V × H)
 | 0, _ => none
 | n + 1, (x228, x229, x230, h231) =>
 (if (decide (x230 < x229)) = true then (
 none)
 else (
 some (x228, h231)))
def F32 (N : Nat) : V × V × V × V × V × V × V × V × V × V × Int × Int × V × H → Option (ByteArray × Int × H)
 | (a0_0, a0_1, a0_2, a0_3, a0_4, a0_5, a0_6, a0_7, a0_8, a0_9, a0_10, a0_11, a0_12, h) =>
 Option.bind (α := (V × Int × H)) (locF false ks33 rs33 (tabG ks33 rs33 TB33) ((a0_0, a0_1, a0_2, a0_3, a0_4, a0_5, a0_6, a0_7, a0_8, a0_9, a0_10, a0_11, a0_12, h) : V × V × V × V × V × V × V × V × V × V × Int × Int × V × H)) fun (x1, x2, h3) =>
 (if (x2 != 0) = true then (
 none)
 else (
 (some (h3 ++ [O.cells 0 [(.int .u8 67), (.int .u8 82), (.int .u8 73), (.int .u8 49)]]) : Option H).bind fun h4 =>
 (markS h4 (.sl (h3).length 0 0 4 1 (some 4))).bind fun (v5, h6) =>
 (ck1 v5).bind fun _ =>
 (some (h6 ++ [O.cells 0 [v5]]) : Option H).bind fun h7 =>
 (F83 N ((.ptr (h6).length 0 0), a0_0, h7)).bind fun h8 =>
 (slen a0_1).bind fun n9 =>
 (F84 N ((.ptr (h6).length 0 0), n9, h8)).bind fun h10 =>
 (slen a0_1).bind fun n11 =>
 (L32_0 N N ((.ptr (h6).length 0 0), n11, 0, a0_0, a0_1, a0_2, a0_3, a0_4, a0_5, a0_6, a0_7, a0_8, a0_9, a0_10, a0_11, a0_12, h10)).bind fun (x46, x47, x48, x49, x50, x51, x52, x53, x54, x55, x56, x57, x58, x59, h60) =>
 (nck x46).bind fun _ =>
 (slen x49).bind fun n61 =>
 (F84 N ((padd x46 0), n61, h60)).bind fun h62 =>
 (slen x49).bind fun n63 =>
 (L32_1 N N (x46, n63, 0, x47, x48, x49, x50, x51, x52, x53, x54, x55, x56, x57, x58, x59, h62)).bind fun (x98, x99, x100, x101, x102, x103, x104, x105, x106, x107, x108, x109, x110, x111, h112) =>
 (F83 N (x98, x102, h112)).bind fun h113 =>
 (nck x98).bind fun _ =>
 (slen x103).bind fun n114 =>
 (F84 N ((padd x98 0), n114, h113)).bind fun h115 =>
 (slen x103).bind fun n116 =>
 (L32_2 N N (x98, n116, 0, x99, x100, x101, x102, x103, x104, x105, x106, x107, x108, x109, x110, x111, h115)).bind fun (x153, x154, x155, x156, x157, x158, x159, x160, x161, x162, x163, x164, x165, x166, h167) =>
 (nck x153).bind fun _ =>
 (slen x163).bind fun n168 =>
 (F84 N ((padd x153 0), n168, h167)).bind fun h169 =>
 (slen x163).bind fun n170 =>
 (L32_3 N N (x153, n170, 0, x154, x155, x156, x157, x158, x159, x160, x161, x162, x163, x164, x165, x166, h169)).bind fun (x205, x206, x207, x208, x209, x210, x211, x212, x213, x214, x215, x216, x217, x218, h219) =>
 (slen x218).bind fun n220 =>
 (some (h219 ++ [O.cells 0 [(.int .i64 x216), (.int .i64 x217), (.int .i64 n220)]]) : Option H).bind fun h221 =>
 (F89 N (x205, (.sl (h219).length 0 0 3 1 (some 3)), h221)).bind fun h222 =>
 (slen x218).bind fun n223 =>
 (L32_4 N N (x205, n223, 0, h222)).bind fun (x232, h233) =>
 (nck x232).bind fun _ =>
 ((rd h233 (padd (padd x232 0) 0) 0)).bind fun x234 =>
 (slen x234).bind fun n235 =>
 (if (decide ((IntKind.i64.wrap (n235 + 4)) > 1048576)) = true then (
 none)
 else (
 (nck x232).bind fun _ =>
 (F91 N ((padd x232 0), h233)).bind fun (x236, h237) =>
 some (x236, 0, h237)))))
abbrev ks32 : List SK := [.agg [.ref, .ref, .ref, .ref, .ref, .ref, .ref, .ref, .ref, .ref, (.int .i64), (.int .i64), .ref]]
abbrev rs32 : List SK := [.one .str, .one (.int .i64)]
def e32 (N : Nat) : Env := ⟨Tryz.prog, 161, inTab [1, 8, 10, 13, 15], inTab [], natTab [(1, 1), (8, 8), (10, 10), (13, 13), (15, 15), (29, 1), (35, 1), (39, 1), (55, 1), (59, 1), (71, 1), (77, 1), (81, 1), (95, 1), (99, 1), (109, 13), (113, 13), (117, 13), (122, 1), (124, 1), (126, 1), (131, 1), (139, 15), (145, 15)], inTab [], calTab [(33, .full (mkFun ks33 rs33 (locF false ks33 rs33 (tabG ks33 rs33 TB33)))), (83, .full (mkFun ks83 rs83 (F83 N))), (84, .full (mkFun ks84 rs84 (F84 N))), (87, .full (mkFun ks87 rs87 (F87 N))), (89, .full (mkFun ks89 rs89 (F89 N))), (91, .full (mkFun ks91 rs91 (F91 N)))], altTab [], loopTab [(8, ⟨⟨.normal, [1, 6, 41, 42], [.lp 1 0, .one .ref, .one (.int .i64), .one (.int .i64)], [1], [.cells [.ref, .ref, .ref, .ref, .ref, .ref, .ref, .ref, .ref, .ref, (.int .i64), (.int .i64), .ref]]⟩, [⟨(.exit 0), [1, 6], [.lp 1 0, .one .ref], [1], [.cells [.ref, .ref, .ref, .ref, .ref, .ref, .ref, .ref, .ref, .ref, (.int .i64), (.int .i64), .ref]]⟩], L32_0 N⟩), (14, ⟨⟨.normal, [1, 6, 61, 62], [.lp 1 0, .one .ref, .one (.int .i64), .one (.int .i64)], [1], [.cells [.ref, .ref, .ref, .ref, .ref, .ref, .ref, .ref, .ref, .ref, (.int .i64), (.int .i64), .ref]]⟩, [⟨(.exit 2), [1, 6], [.lp 1 0, .one .ref], [1], [.cells [.ref, .ref, .ref, .ref, .ref, .ref, .ref, .ref, .ref, .ref, (.int .i64), (.int .i64), .ref]]⟩], L32_1 N⟩), (21, ⟨⟨.normal, [1, 6, 83, 84], [.lp 1 0, .one .ref, .one (.int .i64), .one (.int .i64)], [1], [.cells [.ref, .ref, .ref, .ref, .ref, .ref, .ref, .ref, .ref, .ref, (.int .i64), (.int .i64), .ref]]⟩, [⟨(.exit 4), [1, 6], [.lp 1 0, .one .ref], [1], [.cells [.ref, .ref, .ref, .ref, .ref, .ref, .ref, .ref, .ref, .ref, (.int .i64), (.int .i64), .ref]]⟩], L32_2 N⟩), (27, ⟨⟨.normal, [1, 6, 101, 102], [.lp 1 0, .one .ref, .one (.int .i64), .one (.int .i64)], [1], [.cells [.ref, .ref, .ref, .ref, .ref, .ref, .ref, .ref, .ref, .ref, (.int .i64), (.int .i64), .ref]]⟩, [⟨(.exit 6), [1, 6], [.lp 1 0, .one .ref], [1], [.cells [.ref, .ref, .ref, .ref, .ref, .ref, .ref, .ref, .ref, .ref, (.int .i64), (.int .i64), .ref]]⟩], L32_3 N⟩), (35, ⟨⟨.normal, [6, 133, 134], [.one .ref, .one (.int .i64), .one (.int .i64)], [], []⟩, [⟨(.exit 8), [6], [.one .ref], [], []⟩], L32_4 N⟩)], natTab [], inTab [3, 9, 10, 11, 15, 16, 17, 28, 29, 30, 31, 32, 36, 37, 38, 39, 41]⟩
theorem l32_0 (N : Nat) : ∀ A, (e32 N).lp (lid (loopAt Tryz.f32 0)) = some A → LoopOk (e32 N) N (loopAt Tryz.f32 0) A :=
  loopOk_of (A := ⟨⟨.normal, [1, 6, 41, 42], [.lp 1 0, .one .ref, .one (.int .i64), .one (.int .i64)], [1], [.cells [.ref, .ref, .ref, .ref, .ref, .ref, .ref, .ref, .ref, .ref, (.int .i64), (.int .i64), .ref]]⟩, [⟨(.exit 0), [1, 6], [.lp 1 0, .one .ref], [1], [.cells [.ref, .ref, .ref, .ref, .ref, .ref, .ref, .ref, .ref, .ref, (.int .i64), (.int .i64), .ref]]⟩], L32_0 N⟩) (by kernel_rfl) (fun _ => rfl) (fun _ _ => by kernel_rfl)
theorem l32_1 (N : Nat) : ∀ A, (e32 N).lp (lid (loopAt Tryz.f32 1)) = some A → LoopOk (e32 N) N (loopAt Tryz.f32 1) A :=
  loopOk_of (A := ⟨⟨.normal, [1, 6, 61, 62], [.lp 1 0, .one .ref, .one (.int .i64), .one (.int .i64)], [1], [.cells [.ref, .ref, .ref, .ref, .ref, .ref, .ref, .ref, .ref, .ref, (.int .i64), (.int .i64), .ref]]⟩, [⟨(.exit 2), [1, 6], [.lp 1 0, .one .ref], [1], [.cells [.ref, .ref, .ref, .ref, .ref, .ref, .ref, .ref, .ref, .ref, (.int .i64), (.int .i64), .ref]]⟩], L32_1 N⟩) (by kernel_rfl) (fun _ => rfl) (fun _ _ => by kernel_rfl)
theorem l32_2 (N : Nat) : ∀ A, (e32 N).lp (lid (loopAt Tryz.f32 2)) = some A → LoopOk (e32 N) N (loopAt Tryz.f32 2) A :=
  loopOk_of (A := ⟨⟨.normal, [1, 6, 83, 84], [.lp 1 0, .one .ref, .one (.int .i64), .one (.int .i64)], [1], [.cells [.ref, .ref, .ref, .ref, .ref, .ref, .ref, .ref, .ref, .ref, (.int .i64), (.int .i64), .ref]]⟩, [⟨(.exit 4), [1, 6], [.lp 1 0, .one .ref], [1], [.cells [.ref, .ref, .ref, .ref, .ref, .ref, .ref, .ref, .ref, .ref, (.int .i64), (.int .i64), .ref]]⟩], L32_2 N⟩) (by kernel_rfl) (fun _ => rfl) (fun _ _ => by kernel_rfl)
theorem l32_3 (N : Nat) : ∀ A, (e32 N).lp (lid (loopAt Tryz.f32 3)) = some A → LoopOk (e32 N) N (loopAt Tryz.f32 3) A :=
  loopOk_of (A := ⟨⟨.normal, [1, 6, 101, 102], [.lp 1 0, .one .ref, .one (.int .i64), .one (.int .i64)], [1], [.cells [.ref, .ref, .ref, .ref, .ref, .ref, .ref, .ref, .ref, .ref, (.int .i64), (.int .i64), .ref]]⟩, [⟨(.exit 6), [1, 6], [.lp 1 0, .one .ref], [1], [.cells [.ref, .ref, .ref, .ref, .ref, .ref, .ref, .ref, .ref, .ref, (.int .i64), (.int .i64), .ref]]⟩], L32_3 N⟩) (by kernel_rfl) (fun _ => rfl) (fun _ _ => by kernel_rfl)
theorem l32_4 (N : Nat) : ∀ A, (e32 N).lp (lid (loopAt Tryz.f32 4)) = some A → LoopOk (e32 N) N (loopAt Tryz.f32 4) A :=
  loopOk_of (A := ⟨⟨.normal, [6, 133, 134], [.one .ref, .one (.int .i64), .one (.int .i64)], [], []⟩, [⟨(.exit 8), [6], [.one .ref], [], []⟩], L32_4 N⟩) (by kernel_rfl) (fun _ => rfl) (fun _ _ => by kernel_rfl)
theorem fine32 (N : Nat) : Fine (e32 N) N 32 Tryz.f32 ks32 rs32 (F32 N) :=
  ⟨Tryz.func32, by kernel_rfl, by kernel_rfl, by kernel_rfl, loops_of ⟨l32_0 N, ⟨l32_1 N, ⟨l32_2 N, ⟨l32_3 N, ⟨l32_4 N, trivial⟩⟩⟩⟩⟩, by kernel_rfl, by kernel_rfl, fun _ => by kernel_rfl⟩
theorem good32 (N : Nat) : Go.L.Good (e32 N) := good_of ⟨gt33, ⟨gd83 N, ⟨gd84 N, ⟨gd87 N, ⟨gd89 N, ⟨gd91 N, trivial⟩⟩⟩⟩⟩⟩
theorem gd32 (N : Nat) : CalOk Tryz.prog 32 (.full (mkFun ks32 rs32 (F32 N))) := mkFun_good (fine32 N) (good32 N)

/-! ### 6: image.Save -/
def F6 (N : Nat) : V × H → Option (ByteArray × Int × H)
 | (a0, h) =>
 (F21 N (a0, h)).bind fun (x1, _) =>
 (if (x1 == 0) = true then (
 some ((ByteArray.mk #[]), 1, h))
 else (
 Option.bind (α := (V × V × V × V × V × V × V × V × V × V × Int × Int × V × H)) (tabC rs14 TB14 [a0] h) fun (x2, x3, x4, x5, x6, x7, x8, x9, x10, x11, x12, x13, x14, h15) =>
 (F32 N (x2, x3, x4, x5, x6, x7, x8, x9, x10, x11, x12, x13, x14, h15)).bind fun (x16, x17, h18) =>
 some (x16, x17, h18)))
abbrev ks6 : List SK := [.one .ref]
abbrev rs6 : List SK := [.one .str, .one (.int .i64)]
def e6 (N : Nat) : Env := ⟨Tryz.prog, 12, inTab [], inTab [], natTab [], inTab [], calTab [(21, .ro (mkFun ks21 rs21 (F21 N))), (14, .full (tabF rs14 TB14)), (32, .full (mkFun ks32 rs32 (F32 N)))], altTab [], loopTab [], natTab [], inTab []⟩
theorem fine6 (N : Nat) : Fine (e6 N) N 6 Tryz.f6 ks6 rs6 (F6 N) :=
  ⟨Tryz.func6, by kernel_rfl, by kernel_rfl, by kernel_rfl, loops_of trivial, by kernel_rfl, by kernel_rfl, fun _ => by kernel_rfl⟩
theorem good6 (N : Nat) : Go.L.Good (e6 N) := good_of ⟨gd21 N, ⟨gt14, ⟨gd32 N, trivial⟩⟩⟩
theorem gd6 (N : Nat) : CalOk Tryz.prog 6 (.full (mkFun ks6 rs6 (F6 N))) := mkFun_good (fine6 N) (good6 N)
theorem gl6 (N : Nat) : CalOk Tryz.prog 6 (.full (mkFun ks6 rs6 (locF false ks6 rs6 (F6 N)))) := loc_full (gd6 N)

/-! ### 29: image.SnapOf -/
def L29_0 (N : Nat) : Nat → Int × Int × V × V × V × V × V × V × V × V × V × V × Int × Int × V × H → Option (Int × Int × V × V × V × V × V × V × V × V × V × V × Int × Int × V × H)
 | 0, _ => none
 | n + 1, (x18, x19, x20, x21, x22, x23, x24, x25, x26, x27, x28, x29, x30, x31, x32, h33) =>
 some (x18, x19, .nils, .nils, .nils, .nils, .nils, .nils, .nils, .nils, .nils, .nils, 0, 0, .nils, h33)
def F29 (N : Nat) : ByteArray × H → Option (V × V × V × V × V × V × V × V × V × V × Int × Int × V × Int × Int × H)
 | (a0, h) =>
 (some (h ++ [O.cells 0 [(.str a0), (.int .i64 4), (.int .i64 (-1))]]) : Option H).bind fun h1 =>
 (if (decide (((a0).size : Int) > 1048576)) = true then (
 (L29_0 N N (4, 0, .nils, .nils, .nils, .nils, .nils, .nils, .nils, .nils, .nils, .nils, 0, 0, .nils, h1)).bind fun (x34, x35, x36, x37, x38, x39, x40, x41, x42, x43, x44, x45, x46, x47, x48, h49) =>
 some (x36, x37, x38, x39, x40, x41, x42, x43, x44, x45, x46, x47, x48, x34, x35, h49))
 else (
 (F71 100 (a0, (ByteArray.mk #[67, 82, 73, 49]), [])).bind fun (x50, _) =>
 (if (!x50) = true then (
 (L29_0 N N (80, 0, .nils, .nils, .nils, .nils, .nils, .nils, .nils, .nils, .nils, .nils, 0, 0, .nils, h1)).bind fun (x51, x52, x53, x54, x55, x56, x57, x58, x59, x60, x61, x62, x63, x64, x65, h66) =>
 some (x53, x54, x55, x56, x57, x58, x59, x60, x61, x62, x63, x64, x65, x51, x52, h66))
 else (
 Option.bind (α := (V × V × V × V × V × V × V × V × V × V × Int × Int × V × H)) (tabC rs72 TB72 [(.ptr (h).length 0 0)] h1) fun (x67, x68, x69, x70, x71, x72, x73, x74, x75, x76, x77, x78, x79, h80) =>
 (F73 N ((.ptr (h).length 0 0), h80)).bind fun (x81, _) =>
 (if (x81 == 80) = true then (
 (L.asInt .i64 (rd h80 (.ptr (h).length 0 2) 0)).bind fun x82 =>
 (L29_0 N N (x81, x82, .nils, .nils, .nils, .nils, .nils, .nils, .nils, .nils, .nils, .nils, 0, 0, .nils, h80)).bind fun (x83, x84, x85, x86, x87, x88, x89, x90, x91, x92, x93, x94, x95, x96, x97, h98) =>
 some (x85, x86, x87, x88, x89, x90, x91, x92, x93, x94, x95, x96, x97, x83, x84, h98))
 else (
 (if (x81 == 81) = true then (
 none)
 else (
 Option.bind (α := (V × Int × H)) (locF false ks33 rs33 (tabG ks33 rs33 TB33) ((x67, x68, x69, x70, x71, x72, x73, x74, x75, x76, x77, x78, x79, h80) : V × V × V × V × V × V × V × V × V × V × Int × Int × V × H)) fun (x99, x100, h101) =>
 (if (x100 == 0) = true then (
 some (x67, x68, x69, x70, x71, x72, x73, x74, x75, x76, x77, x78, x79, 0, 0, h101))
 else (
 some (.nils, .nils, .nils, .nils, .nils, .nils, .nils, .nils, .nils, .nils, 0, 0, .nils, x100, 0, h101)))))))))))
abbrev ks29 : List SK := [.one .str]
abbrev rs29 : List SK := [.agg [.ref, .ref, .ref, .ref, .ref, .ref, .ref, .ref, .ref, .ref, (.int .i64), (.int .i64), .ref], .one (.int .i64), .one (.int .i64)]
def e29 (N : Nat) : Env := ⟨Tryz.prog, 51, inTab [2, 5], inTab [], natTab [(2, 2), (5, 5)], inTab [], calTab [(71, .pure (mkP ks71 rs71 (F71 100))), (72, .full (tabF rs72 TB72)), (73, .ro (mkFun ks73 rs73 (F73 N))), (33, .full (mkFun ks33 rs33 (locF false ks33 rs33 (tabG ks33 rs33 TB33))))], altTab [], loopTab [(1000000, ⟨⟨.normal, [2, 6, 7], [.lp 2 0, .one (.int .i64), .one (.int .i64)], [2], [.cells [.ref, .ref, .ref, .ref, .ref, .ref, .ref, .ref, .ref, .ref, (.int .i64), (.int .i64), .ref]]⟩, [⟨.ret, [2, 3, 4], [.lp 2 0, .one (.int .i64), .one (.int .i64)], [2], [.cells [.ref, .ref, .ref, .ref, .ref, .ref, .ref, .ref, .ref, .ref, (.int .i64), (.int .i64), .ref]]⟩], L29_0 N⟩)], natTab [], inTab [15]⟩
theorem l29_0 (N : Nat) : ∀ A, (e29 N).lp (lbKey 0) = some A → LabelOk (e29 N) N 0 (loopAt Tryz.f29 0) A :=
  labelOk_of (A := ⟨⟨.normal, [2, 6, 7], [.lp 2 0, .one (.int .i64), .one (.int .i64)], [2], [.cells [.ref, .ref, .ref, .ref, .ref, .ref, .ref, .ref, .ref, .ref, (.int .i64), (.int .i64), .ref]]⟩, [⟨.ret, [2, 3, 4], [.lp 2 0, .one (.int .i64), .one (.int .i64)], [2], [.cells [.ref, .ref, .ref, .ref, .ref, .ref, .ref, .ref, .ref, .ref, (.int .i64), (.int .i64), .ref]]⟩], L29_0 N⟩) (by kernel_rfl) (fun _ => rfl) (fun _ _ => by kernel_rfl)
theorem fine29 (N : Nat) : Fine (e29 N) N 29 Tryz.f29 ks29 rs29 (F29 N) :=
  ⟨Tryz.func29, by kernel_rfl, by kernel_rfl, by kernel_rfl, loops_of ⟨l29_0 N, trivial⟩, by kernel_rfl, by kernel_rfl, fun _ => by kernel_rfl⟩
theorem good29 (N : Nat) : Go.L.Good (e29 N) := good_of ⟨gd71, ⟨gt72, ⟨gd73 N, ⟨gt33, trivial⟩⟩⟩⟩
theorem gd29 (N : Nat) : CalOk Tryz.prog 29 (.full (mkFun ks29 rs29 (F29 N))) := mkFun_good (fine29 N) (good29 N)
theorem gl29 (N : Nat) : CalOk Tryz.prog 29 (.full (mkFun ks29 rs29 (locF false ks29 rs29 (F29 N)))) := loc_full (gd29 N)


end
end Go.Proofs.YtgipaccfnlklcaaGreat
