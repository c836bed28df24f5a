/- The functions that the law reaches, as plain ones (printed by gen.py). -/
import Derived.Test.YtgipaccfnlklcaaGreatt0
set_option linter.unusedVariables false
set_option maxRecDepth 100000
namespace Go.Proofs.YtgipaccfnlklcaaGreat
noncomputable section
open Go.L

/-! ### 33: node.From -/
def L33_0 (N : Nat) : Nat → V × V × V × Int × Int × V × V × V × V × V × V × V × V × V × V × Int × Int × V × H → Option (V × V × V × V × V × V × V × V × V × V × V × V × V × Int × Int × V × H)
 | 0, _ => none
 | n + 1, (x27, x28, x29, x30, x31, x32, x33, x34, x35, x36, x37, x38, x39, x40, x41, x42, x43, x44, h45) =>
 (if (decide (x31 < x30)) = true then (
 none)
 else (
 some (x27, x28, x29, x32, x33, x34, x35, x36, x37, x38, x39, x40, x41, x42, x43, x44, h45)))
def L33_1 (N : Nat) : Nat → V × Int × Int × Int × V × V × V × V × V × V × V × V × V × V × Int × Int × V × H → Option (V × Int × V × V × V × V × V × V × V × V × V × V × Int × Int × V × H)
 | 0, _ => none
 | n + 1, (x86, x87, x88, x89, x90, x91, x92, x93, x94, x95, x96, x97, x98, x99, x100, x101, x102, h103) =>
 (if (decide (x89 < x88)) = true then (
 none)
 else (
 some (x86, x87, x90, x91, x92, x93, x94, x95, x96, x97, x98, x99, x100, x101, x102, h103)))
def L33_2 (N : Nat) : Nat → V × Int × V × Int × Int × V × V × V × V × V × V × V × V × V × V × Int × Int × V × H → Option (V × Int × V × V × V × V × V × V × V × V × V × V × Int × Int × V × H)
 | 0, _ => none
 | n + 1, (x148, x149, x150, x151, x152, x153, x154, x155, x156, x157, x158, x159, x160, x161, x162, x163, x164, x165, h166) =>
 (if (decide (x152 < x151)) = true then (
 (sidx x150 x152 3).bind fun q167 =>
 (rdN h166 q167 3).bind fun cs168 =>
 (if (cs168).length = 3 then (
 (if 0 + (cs168).length ≤ 3 then (
 ((splice [.nils, .nils, .nils] 0 cs168)[0]?).bind fun x169 =>
 (slen x169).bind fun n170 =>
 ((splice [.nils, .nils, .nils] 0 cs168)[1]?).bind fun x171 =>
 (slen x171).bind fun n172 =>
 ((splice [.nils, .nils, .nils] 0 cs168)[2]?).bind fun x173 =>
 (slen x173).bind fun n174 =>
 L33_2 N n (x148, (IntKind.i64.wrap (x149 - (IntKind.i64.wrap ((IntKind.i64.wrap (n170 + n172)) + n174)))), x150, x151, (IntKind.i64.wrap (x152 + 1)), x153, x154, x155, x156, x157, x158, x159, x160, x161, x162, x163, x164, x165, h166)) else none)) else none))
 else (
 some (x148, x149, x153, x154, x155, x156, x157, x158, x159, x160, x161, x162, x163, x164, x165, h166)))
def F33 (N : Nat) : V × V × V × V × V × V × V × V × V × V × Int × Int × V × H → Option (V × Int × H)
 | (a0_0, a0_1, a0_2, a0_3, a0_4, a0_5, a0_6, a0_7, a0_8, a0_9, a0_10, a0_11, a0_12, h) =>
 (F92 N (a0_0, a0_1, a0_2, a0_3, a0_4, a0_5, a0_6, a0_7, a0_8, a0_9, a0_10, a0_11, a0_12, h)).bind fun (x1, h2) =>
 (if (!x1) = true then (
 none)
 else (
 (slen a0_4).bind fun n3 =>
 Option.bind (α := (V × Int × H)) (tabC rs34 TB34 [(.int .i64 n3), a0_0] h2) fun (x4, x5, h6) =>
 (slen a0_2).bind fun n7 =>
 (L33_0 N N (x4, .nils, .nils, n7, 0, a0_0, a0_1, a0_2, a0_3, a0_4, a0_5, a0_6, a0_7, a0_8, a0_9, a0_10, a0_11, a0_12, h6)).bind fun (x46, x47, x48, x49, x50, x51, x52, x53, x54, x55, x56, x57, x58, x59, x60, x61, h62) =>
 (F93 N (x52, x47, x48, h62)).bind fun (x63, x64, h65) =>
 (if (x64 != 0) = true then (
 none)
 else (
 (nck x46).bind fun _ =>
 (ck1 x63).bind fun _ =>
 (wr h65 (padd x46 2) [x63]).bind fun h66 =>
 (slen x51).bind fun n67 =>
 (L33_1 N N (x46, 0, n67, 0, x49, x50, x51, x52, x53, x54, x55, x56, x57, x58, x59, x60, x61, h66)).bind fun (x104, x105, x106, x107, x108, x109, x110, x111, x112, x113, x114, x115, x116, x117, x118, h119) =>
 (slen x110).bind fun n120 =>
 (L33_2 N N (x104, x105, x110, n120, 0, x106, x107, x108, x109, x110, x111, x112, x113, x114, x115, x116, x117, x118, h119)).bind fun (x175, x176, x177, x178, x179, x180, x181, x182, x183, x184, x185, x186, x187, x188, x189, h190) =>
 (if (x176 != 0) = true then (
 some (true, h190))
 else (
 (F98 N (x175, x177, x178, x179, x180, x181, x182, x183, x184, x185, x186, x187, x188, x189, h190)).bind fun (x193, h194) =>
 some ((!x193), h194))).bind fun (b191, h192) =>
 (if b191 = true then (
 none)
 else (
 (F48 N (x178, h192)).bind fun (x195, _) =>
 (F57 N (x189, h192)).bind fun (x196, _) =>
 (nck x175).bind fun _ =>
 (ck1 x195).bind fun _ =>
 (wr h192 (padd x175 1) [x195]).bind fun h197 =>
 (nck x175).bind fun _ =>
 (wr h197 (padd x175 7) [(.int .i64 x187)]).bind fun h198 =>
 (nck x175).bind fun _ =>
 (wr h198 (padd x175 8) [(.int .i64 x188)]).bind fun h199 =>
 (nck x175).bind fun _ =>
 (ck1 x196).bind fun _ =>
 (wr h199 (padd x175 9) [x196]).bind fun h200 =>
 some (x175, 0, h200)))))))
abbrev ks33 : List SK := [.agg [.ref, .ref, .ref, .ref, .ref, .ref, .ref, .ref, .ref, .ref, (.int .i64), (.int .i64), .ref]]
abbrev rs33 : List SK := [.one .ref, .one (.int .i64)]
def e33 (N : Nat) : Env := ⟨Tryz.prog, 198, inTab [1, 9, 14, 15, 18, 42, 48], inTab [], natTab [(1, 1), (9, 9), (14, 14), (15, 15), (18, 18), (23, 1), (26, 1), (31, 1), (39, 9), (40, 9), (45, 9), (46, 9), (52, 1), (65, 1), (72, 14), (83, 15), (85, 15), (90, 15), (92, 15), (94, 15), (96, 15), (98, 15), (100, 15), (102, 15), (104, 15), (106, 14), (112, 15), (121, 14), (123, 14), (125, 14), (136, 15), (137, 15), (140, 15), (146, 1), (154, 18), (157, 18), (161, 18), (179, 1), (182, 1), (184, 1), (186, 1)], inTab [], calTab [(92, .full (mkFun ks92 rs92 (F92 N))), (34, .full (tabF rs34 TB34)), (93, .full (mkFun ks93 rs93 (F93 N))), (98, .full (mkFun ks98 rs98 (F98 N))), (48, .ro (mkFun ks48 rs48 (F48 N))), (57, .ro (mkFun ks57 rs57 (F57 N)))], altTab [], loopTab [(7, ⟨⟨.normal, [1, 4, 6, 7, 33, 34], [.lp 1 0, .one .ref, .one .ref, .one .ref, .one (.int .i64), .one (.int .i64)], [1], [.cells [.ref, .ref, .ref, .ref, .ref, .ref, .ref, .ref, .ref, .ref, (.int .i64), (.int .i64), .ref]]⟩, [⟨(.exit 0), [1, 4, 6, 7], [.lp 1 0, .one .ref, .one .ref, .one .ref], [1], [.cells [.ref, .ref, .ref, .ref, .ref, .ref, .ref, .ref, .ref, .ref, (.int .i64), (.int .i64), .ref]]⟩], L33_0 N⟩), (18, ⟨⟨.normal, [1, 4, 12, 67, 68], [.lp 1 0, .one .ref, .one (.int .i64), .one (.int .i64), .one (.int .i64)], [1], [.cells [.ref, .ref, .ref, .ref, .ref, .ref, .ref, .ref, .ref, .ref, (.int .i64), (.int .i64), .ref]]⟩, [⟨(.exit 2), [1, 4, 12], [.lp 1 0, .one .ref, .one (.int .i64)], [1], [.cells [.ref, .ref, .ref, .ref, .ref, .ref, .ref, .ref, .ref, .ref, (.int .i64), (.int .i64), .ref]]⟩], L33_1 N⟩), (31, ⟨⟨.normal, [1, 4, 12, 147, 148, 149], [.lp 1 0, .one .ref, .one (.int .i64), .one .ref, .one (.int .i64), .one (.int .i64)], [1], [.cells [.ref, .ref, .ref, .ref, .ref, .ref, .ref, .ref, .ref, .ref, (.int .i64), (.int .i64), .ref]]⟩, [⟨(.exit 4), [1, 4, 12], [.lp 1 0, .one .ref, .one (.int .i64)], [1], [.cells [.ref, .ref, .ref, .ref, .ref, .ref, .ref, .ref, .ref, .ref, (.int .i64), (.int .i64), .ref]]⟩], L33_2 N⟩)], natTab [], inTab [2, 8, 9, 10, 11, 14, 19, 20, 21, 22, 23, 24, 25, 26, 27, 28, 29, 36]⟩
theorem l33_0 (N : Nat) : ∀ A, (e33 N).lp (lid (loopAt Tryz.f33 0)) = some A → LoopOk (e33 N) N (loopAt Tryz.f33 0) A :=
  loopOk_of (A := ⟨⟨.normal, [1, 4, 6, 7, 33, 34], [.lp 1 0, .one .ref, .one .ref, .one .ref, .one (.int .i64), .one (.int .i64)], [1], [.cells [.ref, .ref, .ref, .ref, .ref, .ref, .ref, .ref, .ref, .ref, (.int .i64), (.int .i64), .ref]]⟩, [⟨(.exit 0), [1, 4, 6, 7], [.lp 1 0, .one .ref, .one .ref, .one .ref], [1], [.cells [.ref, .ref, .ref, .ref, .ref, .ref, .ref, .ref, .ref, .ref, (.int .i64), (.int .i64), .ref]]⟩], L33_0 N⟩) (by kernel_rfl) (fun _ => rfl) (fun _ _ => by kernel_rfl)
theorem l33_1 (N : Nat) : ∀ A, (e33 N).lp (lid (loopAt Tryz.f33 1)) = some A → LoopOk (e33 N) N (loopAt Tryz.f33 1) A :=
  loopOk_of (A := ⟨⟨.normal, [1, 4, 12, 67, 68], [.lp 1 0, .one .ref, .one (.int .i64), .one (.int .i64), .one (.int .i64)], [1], [.cells [.ref, .ref, .ref, .ref, .ref, .ref, .ref, .ref, .ref, .ref, (.int .i64), (.int .i64), .ref]]⟩, [⟨(.exit 2), [1, 4, 12], [.lp 1 0, .one .ref, .one (.int .i64)], [1], [.cells [.ref, .ref, .ref, .ref, .ref, .ref, .ref, .ref, .ref, .ref, (.int .i64), (.int .i64), .ref]]⟩], L33_1 N⟩) (by kernel_rfl) (fun _ => rfl) (fun _ _ => by kernel_rfl)
theorem l33_2 (N : Nat) : ∀ A, (e33 N).lp (lid (loopAt Tryz.f33 2)) = some A → LoopOk (e33 N) N (loopAt Tryz.f33 2) A :=
  loopOk_of (A := ⟨⟨.normal, [1, 4, 12, 147, 148, 149], [.lp 1 0, .one .ref, .one (.int .i64), .one .ref, .one (.int .i64), .one (.int .i64)], [1], [.cells [.ref, .ref, .ref, .ref, .ref, .ref, .ref, .ref, .ref, .ref, (.int .i64), (.int .i64), .ref]]⟩, [⟨(.exit 4), [1, 4, 12], [.lp 1 0, .one .ref, .one (.int .i64)], [1], [.cells [.ref, .ref, .ref, .ref, .ref, .ref, .ref, .ref, .ref, .ref, (.int .i64), (.int .i64), .ref]]⟩], L33_2 N⟩) (by kernel_rfl) (fun _ => rfl) (fun _ _ => by kernel_rfl)
theorem fine33 (N : Nat) : Fine (e33 N) N 33 Tryz.f33 ks33 rs33 (F33 N) :=
  ⟨Tryz.func33, by kernel_rfl, by kernel_rfl, by kernel_rfl, loops_of ⟨l33_0 N, ⟨l33_1 N, ⟨l33_2 N, trivial⟩⟩⟩, by kernel_rfl, by kernel_rfl, fun _ => by kernel_rfl⟩
theorem good33 (N : Nat) : Go.L.Good (e33 N) := good_of ⟨gd92 N, ⟨gt34, ⟨gd93 N, ⟨gd98 N, ⟨gd48 N, ⟨gd57 N, trivial⟩⟩⟩⟩⟩⟩
theorem gd33 (N : Nat) : CalOk Tryz.prog 33 (.full (mkFun ks33 rs33 (F33 N))) := mkFun_good (fine33 N) (good33 N)
theorem gl33 (N : Nat) : CalOk Tryz.prog 33 (.full (mkFun ks33 rs33 (locF false ks33 rs33 (F33 N)))) := loc_full (gd33 N)


end
end Go.Proofs.YtgipaccfnlklcaaGreat
