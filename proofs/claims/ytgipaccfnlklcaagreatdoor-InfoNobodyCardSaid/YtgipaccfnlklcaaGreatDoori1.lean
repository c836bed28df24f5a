/- The functions that the law reaches, as plain ones (printed by gen.py). -/
import Derived.Test.YtgipaccfnlklcaaGreatDoort0
set_option linter.unusedVariables false
set_option maxRecDepth 100000
namespace Go.Proofs.YtgipaccfnlklcaaGreatDoor
noncomputable section
open Go.L

/-! ### 7: info.Sums -/
def L7_1 (N : Nat) : Nat → V × Int × Int × Int × Int × V × V × V × V × V × V × V × V × V × V × Int × Int × V × List V × H → Option (V × Int × Int × Int × V × V × V × V × V × V × V × V × V × V × Int × Int × V × List V × H)
 | 0, _ => none
 | n + 1, (x63, x64, x65, x66, x67, x68, x69, x70, x71, x72, x73, x74, x75, x76, x77, x78, x79, x80, cs81, h82) =>
 (if (decide (x67 < 3)) = true then (
 (sidx x72 x64 3).bind fun q83 =>
 (aidx q83 x67 3 1).bind fun q84 =>
 ((rd h82 q84 0)).bind fun x85 =>
 (slen x85).bind fun n86 =>
 (if 0 ≤ x67 then (if x67 < 3 then (
 (if (1 + Int.toNat x67 * 1) + 1 ≤ (cs81).length then (
 L7_1 N n (x63, x64, x65, x66, (IntKind.i64.wrap (x67 + 1)), x68, x69, x70, x71, x72, x73, x74, x75, x76, x77, x78, x79, x80, (splice cs81 (1 + Int.toNat x67 * 1) [(.int .i64 n86)]), h82)) else none)) else none) else none))
 else (
 some (x63, x64, x65, x66, x68, x69, x70, x71, x72, x73, x74, x75, x76, x77, x78, x79, x80, cs81, h82)))
def L7_2 (N : Nat) : Nat → V × Int × Int × Int × V × Int × Int × V × V × V × V × V × V × V × V × V × V × Int × Int × V × List V × H → Option (V × Int × Int × V × V × V × V × V × V × V × V × V × V × Int × Int × V × List V × H)
 | 0, _ => none
 | n + 1, (x158, x159, x160, x161, x162, x163, x164, x165, x166, x167, x168, x169, x170, x171, x172, x173, x174, x175, x176, x177, cs178, h179) =>
 (if (decide (x164 < x163)) = true then (
 (sidx x162 x164 19).bind fun q180 =>
 (rdN h179 q180 19).bind fun cs181 =>
 (if (cs181).length = 19 then (
 (if 0 + (cs181).length ≤ 19 then (
 (L.asInt .i64 (splice [(.int .i64 0), (.int .i64 0), (.str (ByteArray.mk #[])), (.int .i64 0), (.int .i64 0), (.int .i64 0), (.int .i64 0), (.bool false), (.bool false), (.int .i64 0), (.int .i64 0), (.int .i64 0), .nils, .nils, .nils, .nils, (.int .i64 0), (.int .i64 0), (.int .i64 0)] 0 cs181)[4]?).bind fun x182 =>
 ((if (x182 == x159) = true then (
 (L.asInt .i64 (splice [(.int .i64 0), (.int .i64 0), (.str (ByteArray.mk #[])), (.int .i64 0), (.int .i64 0), (.int .i64 0), (.int .i64 0), (.bool false), (.bool false), (.int .i64 0), (.int .i64 0), (.int .i64 0), .nils, .nils, .nils, .nils, (.int .i64 0), (.int .i64 0), (.int .i64 0)] 0 cs181)[5]?).bind fun x183 =>
 (if 0 ≤ x183 then (if x183 < 3 then (
 (L.asInt .i64 cs178[((4 + Int.toNat x183 * 1) + 0)]?).bind fun x184 =>
 (if 0 ≤ x183 then (if x183 < 3 then (
 (if (4 + Int.toNat x183 * 1) + 1 ≤ (cs178).length then (
 (L.asInt .i64 (splice cs178 (4 + Int.toNat x183 * 1) [(.int .i64 (IntKind.i64.wrap (x184 + 1)))])[10]?).bind fun x185 =>
 (L.asInt .i64 (splice [(.int .i64 0), (.int .i64 0), (.str (ByteArray.mk #[])), (.int .i64 0), (.int .i64 0), (.int .i64 0), (.int .i64 0), (.bool false), (.bool false), (.int .i64 0), (.int .i64 0), (.int .i64 0), .nils, .nils, .nils, .nils, (.int .i64 0), (.int .i64 0), (.int .i64 0)] 0 cs181)[9]?).bind fun x186 =>
 (if 10 + 1 ≤ ((splice cs178 (4 + Int.toNat x183 * 1) [(.int .i64 (IntKind.i64.wrap (x184 + 1)))])).length then (
 some (x158, x159, x160, x161, x162, x163, x164, x165, x166, x167, x168, x169, x170, x171, x172, x173, x174, x175, x176, x177, (splice (splice cs178 (4 + Int.toNat x183 * 1) [(.int .i64 (IntKind.i64.wrap (x184 + 1)))]) 10 [(.int .i64 (if 4611686018427387903 < (IntKind.i64.wrap (x185 + x186)) then 4611686018427387903 else (IntKind.i64.wrap (x185 + x186))))]), h179)) else none)) else none)) else none) else none)) else none) else none))
 else (
 some (x158, x159, x160, x161, x162, x163, x164, x165, x166, x167, x168, x169, x170, x171, x172, x173, x174, x175, x176, x177, cs178, h179))) : Option (V × Int × Int × Int × V × Int × Int × V × V × V × V × V × V × V × V × V × V × Int × Int × V × List V × H)).bind fun (x187, x188, x189, x190, x191, x192, x193, x194, x195, x196, x197, x198, x199, x200, x201, x202, x203, x204, x205, x206, cs207, h208) =>
 L7_2 N n (x187, x188, x189, x190, x191, x192, (IntKind.i64.wrap (x193 + 1)), x194, x195, x196, x197, x198, x199, x200, x201, x202, x203, x204, x205, x206, cs207, h208)) else none)) else none))
 else (
 some (x158, x160, x161, x165, x166, x167, x168, x169, x170, x171, x172, x173, x174, x175, x176, x177, cs178, h179)))
def L7_0 (N : Nat) : Nat → V × Int × Int × V × V × V × V × V × V × V × V × V × V × Int × Int × V × H → Option (V × H)
 | 0, _ => none
 | n + 1, (x231, x232, x233, x234, x235, x236, x237, x238, x239, x240, x241, x242, x243, x244, x245, x246, h247) =>
 (if (decide (x233 < x232)) = true then (
 (sidx x239 x233 1).bind fun q248 =>
 (L.asInt .i64 (rd h247 q248 0)).bind fun x249 =>
 (sidx x240 x233 1).bind fun q250 =>
 (L.asInt .i64 (rd h247 q250 0)).bind fun x251 =>
 (sidx x241 x233 1).bind fun q252 =>
 (L.asInt .i64 (rd h247 q252 0)).bind fun x253 =>
 (L7_1 N N (x231, x233, x232, x233, 0, x234, x235, x236, x237, x238, x239, x240, x241, x242, x243, x244, x245, x246, [(.int .i64 x233), (.int .i64 0), (.int .i64 0), (.int .i64 0), (.int .i64 0), (.int .i64 0), (.int .i64 0), (.int .i64 x249), (.int .i64 x251), (.int .i64 x253), (.int .i64 0)], h247)).bind fun (x254, x255, x256, x257, x258, x259, x260, x261, x262, x263, x264, x265, x266, x267, x268, x269, x270, cs271, h272) =>
 (slen x260).bind fun n273 =>
 (L7_2 N N (x254, x255, x256, x257, x260, n273, 0, x258, x259, x260, x261, x262, x263, x264, x265, x266, x267, x268, x269, x270, cs271, h272)).bind fun (x274, x275, x276, x277, x278, x279, x280, x281, x282, x283, x284, x285, x286, x287, x288, x289, cs290, h291) =>
 ((if 0 + 11 ≤ (cs290).length then some (((cs290).drop 0).take 11) else none) : Option (List V)).bind fun cs292 =>
 (if (cs292).length = 11 then (
 (if 0 + (cs292).length ≤ 11 then (
 (scells h291 (.rs 11 (chunks 11 1 (splice (List.replicate 11 (.int .i64 0)) 0 cs292))) 11).bind fun cs295 =>
 (happ h291 x274 11 (snlen (.rs 11 (chunks 11 1 (splice (List.replicate 11 (.int .i64 0)) 0 cs292)))) cs295).bind fun (v293, h294) =>
 L7_0 N n (v293, x275, (IntKind.i64.wrap (x276 + 1)), x277, x278, x279, x280, x281, x282, x283, x284, x285, x286, x287, x288, x289, h294)) else none)) else none))
 else (
 some (x231, h247)))
def F7 (N : Nat) : V × H → Option (V × H)
 | (a0, h) =>
 Option.bind (α := (V × V × V × V × V × V × V × V × V × V × Int × Int × V × H)) (locF false ks18 rs18 (tabG ks18 rs18 TB18) ((a0, h) : V × H)) fun (x1, x2, x3, x4, x5, x6, x7, x8, x9, x10, x11, x12, x13, h14) =>
 (F11 N (a0, h14)).bind fun (x15, _) =>
 (L7_0 N N (.nils, x15, 0, x1, x2, x3, x4, x5, x6, x7, x8, x9, x10, x11, x12, x13, h14)).bind fun (x296, h297) =>
 some (x296, h297)
abbrev ks7 : List SK := [.one .ref]
abbrev rs7 : List SK := [.one .ref]
def e7 (N : Nat) : Env := ⟨Tryz.prog, 85, inTab [3, 6, 9, 81], inTab [], natTab [(3, 3), (6, 6), (9, 9), (18, 3), (23, 3), (28, 3), (38, 3), (46, 6), (47, 6), (49, 3), (56, 9), (57, 9), (61, 9), (62, 9), (64, 6), (65, 6), (68, 6), (69, 6), (70, 6), (72, 9), (73, 9), (77, 6)], inTab [], calTab [(18, .full (mkFun ks18 rs18 (locF false ks18 rs18 (tabG ks18 rs18 TB18)))), (11, .ro (mkFun ks11 rs11 (F11 N)))], altTab [(1048636, [⟨.normal, [3, 4, 5, 6, 13, 14, 50, 51, 52], [.lp 3 0, .one .ref, .one (.int .i64), .lp 6 0, .one (.int .i64), .one (.int .i64), .one .ref, .one (.int .i64), .one (.int .i64)], [3, 6], [.cells [.ref, .ref, .ref, .ref, .ref, .ref, .ref, .ref, .ref, .ref, (.int .i64), (.int .i64), .ref], .blk]⟩])], loopTab [(4, ⟨⟨.normal, [3, 4, 13, 14], [.lp 3 0, .one .ref, .one (.int .i64), .one (.int .i64)], [3], [.cells [.ref, .ref, .ref, .ref, .ref, .ref, .ref, .ref, .ref, .ref, (.int .i64), (.int .i64), .ref]]⟩, [⟨(.exit 0), [4], [.one .ref], [], []⟩], L7_0 N⟩), (8, ⟨⟨.normal, [3, 4, 5, 6, 13, 14, 34], [.lp 3 0, .one .ref, .one (.int .i64), .lp 6 0, .one (.int .i64), .one (.int .i64), .one (.int .i64)], [3, 6], [.cells [.ref, .ref, .ref, .ref, .ref, .ref, .ref, .ref, .ref, .ref, (.int .i64), (.int .i64), .ref], .blk]⟩, [⟨(.exit 2), [3, 4, 5, 6, 13, 14], [.lp 3 0, .one .ref, .one (.int .i64), .lp 6 0, .one (.int .i64), .one (.int .i64)], [3, 6], [.cells [.ref, .ref, .ref, .ref, .ref, .ref, .ref, .ref, .ref, .ref, (.int .i64), (.int .i64), .ref], .blk]⟩], L7_1 N⟩), (13, ⟨⟨.normal, [3, 4, 5, 6, 13, 14, 50, 51, 52], [.lp 3 0, .one .ref, .one (.int .i64), .lp 6 0, .one (.int .i64), .one (.int .i64), .one .ref, .one (.int .i64), .one (.int .i64)], [3, 6], [.cells [.ref, .ref, .ref, .ref, .ref, .ref, .ref, .ref, .ref, .ref, (.int .i64), (.int .i64), .ref], .blk]⟩, [⟨(.exit 4), [3, 4, 6, 13, 14], [.lp 3 0, .one .ref, .lp 6 0, .one (.int .i64), .one (.int .i64)], [3, 6], [.cells [.ref, .ref, .ref, .ref, .ref, .ref, .ref, .ref, .ref, .ref, (.int .i64), (.int .i64), .ref], .blk]⟩], L7_2 N⟩)], natTab [], inTab []⟩
theorem l7_0 (N : Nat) : ∀ A, (e7 N).lp (lid (loopAt Tryz.f7 0)) = some A → LoopOk (e7 N) N (loopAt Tryz.f7 0) A :=
  loopOk_of (A := ⟨⟨.normal, [3, 4, 13, 14], [.lp 3 0, .one .ref, .one (.int .i64), .one (.int .i64)], [3], [.cells [.ref, .ref, .ref, .ref, .ref, .ref, .ref, .ref, .ref, .ref, (.int .i64), (.int .i64), .ref]]⟩, [⟨(.exit 0), [4], [.one .ref], [], []⟩], L7_0 N⟩) (by kernel_rfl) (fun _ => rfl) (fun _ _ => by kernel_rfl)
theorem l7_1 (N : Nat) : ∀ A, (e7 N).lp (lid (loopAt Tryz.f7 1)) = some A → LoopOk (e7 N) N (loopAt Tryz.f7 1) A :=
  loopOk_of (A := ⟨⟨.normal, [3, 4, 5, 6, 13, 14, 34], [.lp 3 0, .one .ref, .one (.int .i64), .lp 6 0, .one (.int .i64), .one (.int .i64), .one (.int .i64)], [3, 6], [.cells [.ref, .ref, .ref, .ref, .ref, .ref, .ref, .ref, .ref, .ref, (.int .i64), (.int .i64), .ref], .blk]⟩, [⟨(.exit 2), [3, 4, 5, 6, 13, 14], [.lp 3 0, .one .ref, .one (.int .i64), .lp 6 0, .one (.int .i64), .one (.int .i64)], [3, 6], [.cells [.ref, .ref, .ref, .ref, .ref, .ref, .ref, .ref, .ref, .ref, (.int .i64), (.int .i64), .ref], .blk]⟩], L7_1 N⟩) (by kernel_rfl) (fun _ => rfl) (fun _ _ => by kernel_rfl)
theorem l7_2 (N : Nat) : ∀ A, (e7 N).lp (lid (loopAt Tryz.f7 2)) = some A → LoopOk (e7 N) N (loopAt Tryz.f7 2) A :=
  loopOk_of (A := ⟨⟨.normal, [3, 4, 5, 6, 13, 14, 50, 51, 52], [.lp 3 0, .one .ref, .one (.int .i64), .lp 6 0, .one (.int .i64), .one (.int .i64), .one .ref, .one (.int .i64), .one (.int .i64)], [3, 6], [.cells [.ref, .ref, .ref, .ref, .ref, .ref, .ref, .ref, .ref, .ref, (.int .i64), (.int .i64), .ref], .blk]⟩, [⟨(.exit 4), [3, 4, 6, 13, 14], [.lp 3 0, .one .ref, .lp 6 0, .one (.int .i64), .one (.int .i64)], [3, 6], [.cells [.ref, .ref, .ref, .ref, .ref, .ref, .ref, .ref, .ref, .ref, (.int .i64), (.int .i64), .ref], .blk]⟩], L7_2 N⟩) (by kernel_rfl) (fun _ => rfl) (fun _ _ => by kernel_rfl)
theorem fine7 (N : Nat) : Fine (e7 N) N 7 Tryz.f7 ks7 rs7 (F7 N) :=
  ⟨Tryz.func7, by kernel_rfl, by kernel_rfl, by kernel_rfl, loops_of ⟨l7_0 N, ⟨l7_1 N, ⟨l7_2 N, trivial⟩⟩⟩, by kernel_rfl, by kernel_rfl, fun _ => by kernel_rfl⟩
theorem good7 (N : Nat) : Go.L.Good (e7 N) := good_of ⟨gt18, ⟨gd11 N, trivial⟩⟩
theorem gd7 (N : Nat) : CalOk Tryz.prog 7 (.full (mkFun ks7 rs7 (F7 N))) := mkFun_good (fine7 N) (good7 N)
theorem gl7 (N : Nat) : CalOk Tryz.prog 7 (.full (mkFun ks7 rs7 (locF false ks7 rs7 (F7 N)))) := loc_full (gd7 N)

/-! ### 19: node.From -/
def L19_0 (N : Nat) : Nat → V × V × V × V × Int × Int × V × V × V × V × V × V × V × V × V × V × Int × Int × V × H → Option (V × V × V × V × V × V × V × V × V × V × V × V × V × Int × Int × V × H)
 | 0, _ => none
 | n + 1, (x37, x38, x39, x40, x41, x42, x43, x44, x45, x46, x47, x48, x49, x50, x51, x52, x53, x54, x55, h56) =>
 (if (decide (x42 < x41)) = true then (
 (sidx x40 x42 19).bind fun q57 =>
 (rdN h56 q57 19).bind fun cs58 =>
 (if (cs58).length = 19 then (
 (if 0 + (cs58).length ≤ 19 then (
 (L.asInt .i64 (splice [(.int .i64 0), (.int .i64 0), (.str (ByteArray.mk #[])), (.int .i64 0), (.int .i64 0), (.int .i64 0), (.int .i64 0), (.bool false), (.bool false), (.int .i64 0), (.int .i64 0), (.int .i64 0), .nils, .nils, .nils, .nils, (.int .i64 0), (.int .i64 0), (.int .i64 0)] 0 cs58)[0]?).bind fun x59 =>
 (L.asInt .i64 (splice [(.int .i64 0), (.int .i64 0), (.str (ByteArray.mk #[])), (.int .i64 0), (.int .i64 0), (.int .i64 0), (.int .i64 0), (.bool false), (.bool false), (.int .i64 0), (.int .i64 0), (.int .i64 0), .nils, .nils, .nils, .nils, (.int .i64 0), (.int .i64 0), (.int .i64 0)] 0 cs58)[1]?).bind fun x60 =>
 (happ h56 x38 2 1 [(.int .i64 x59), (.int .i64 x60)]).bind fun (v61, h62) =>
 (L.asStr (splice [(.int .i64 0), (.int .i64 0), (.str (ByteArray.mk #[])), (.int .i64 0), (.int .i64 0), (.int .i64 0), (.int .i64 0), (.bool false), (.bool false), (.int .i64 0), (.int .i64 0), (.int .i64 0), .nils, .nils, .nils, .nils, (.int .i64 0), (.int .i64 0), (.int .i64 0)] 0 cs58)[2]?).bind fun x63 =>
 (happ h62 x39 1 1 [(.str x63)]).bind fun (v64, h65) =>
 L19_0 N n (x37, v61, v64, x40, x41, (IntKind.i64.wrap (x42 + 1)), x43, x44, x45, x46, x47, x48, x49, x50, x51, x52, x53, x54, x55, h65)) else none)) else none))
 else (
 some (x37, x38, x39, x43, x44, x45, x46, x47, x48, x49, x50, x51, x52, x53, x54, x55, h56)))
def L19_1 (N : Nat) : Nat → V × Int × V × Int × Int × V × V × V × V × V × V × V × V × V × V × Int × Int × V × H → Option (V × Int × V × V × V × V × V × V × V × V × V × V × Int × Int × V × H)
 | 0, _ => none
 | n + 1, (x165, x166, x167, x168, x169, x170, x171, x172, x173, x174, x175, x176, x177, x178, x179, x180, x181, x182, h183) =>
 (if (decide (x169 < x168)) = true then (
 (sidx x167 x169 19).bind fun q184 =>
 (rdN h183 q184 19).bind fun cs185 =>
 (if (cs185).length = 19 then (
 (if 0 + (cs185).length ≤ 19 then (
 (L.asInt .i64 (splice [(.int .i64 0), (.int .i64 0), (.str (ByteArray.mk #[])), (.int .i64 0), (.int .i64 0), (.int .i64 0), (.int .i64 0), (.bool false), (.bool false), (.int .i64 0), (.int .i64 0), (.int .i64 0), .nils, .nils, .nils, .nils, (.int .i64 0), (.int .i64 0), (.int .i64 0)] 0 cs185)[0]?).bind fun x186 =>
 (L.asInt .i64 (splice [(.int .i64 0), (.int .i64 0), (.str (ByteArray.mk #[])), (.int .i64 0), (.int .i64 0), (.int .i64 0), (.int .i64 0), (.bool false), (.bool false), (.int .i64 0), (.int .i64 0), (.int .i64 0), .nils, .nils, .nils, .nils, (.int .i64 0), (.int .i64 0), (.int .i64 0)] 0 cs185)[1]?).bind fun x187 =>
 (L.asStr (splice [(.int .i64 0), (.int .i64 0), (.str (ByteArray.mk #[])), (.int .i64 0), (.int .i64 0), (.int .i64 0), (.int .i64 0), (.bool false), (.bool false), (.int .i64 0), (.int .i64 0), (.int .i64 0), .nils, .nils, .nils, .nils, (.int .i64 0), (.int .i64 0), (.int .i64 0)] 0 cs185)[2]?).bind fun x188 =>
 (L.asInt .i64 (splice [(.int .i64 0), (.int .i64 0), (.str (ByteArray.mk #[])), (.int .i64 0), (.int .i64 0), (.int .i64 0), (.int .i64 0), (.bool false), (.bool false), (.int .i64 0), (.int .i64 0), (.int .i64 0), .nils, .nils, .nils, .nils, (.int .i64 0), (.int .i64 0), (.int .i64 0)] 0 cs185)[3]?).bind fun x189 =>
 (L.asInt .i64 (splice [(.int .i64 0), (.int .i64 0), (.str (ByteArray.mk #[])), (.int .i64 0), (.int .i64 0), (.int .i64 0), (.int .i64 0), (.bool false), (.bool false), (.int .i64 0), (.int .i64 0), (.int .i64 0), .nils, .nils, .nils, .nils, (.int .i64 0), (.int .i64 0), (.int .i64 0)] 0 cs185)[4]?).bind fun x190 =>
 (L.asInt .i64 (splice [(.int .i64 0), (.int .i64 0), (.str (ByteArray.mk #[])), (.int .i64 0), (.int .i64 0), (.int .i64 0), (.int .i64 0), (.bool false), (.bool false), (.int .i64 0), (.int .i64 0), (.int .i64 0), .nils, .nils, .nils, .nils, (.int .i64 0), (.int .i64 0), (.int .i64 0)] 0 cs185)[5]?).bind fun x191 =>
 (L.asInt .i64 (splice [(.int .i64 0), (.int .i64 0), (.str (ByteArray.mk #[])), (.int .i64 0), (.int .i64 0), (.int .i64 0), (.int .i64 0), (.bool false), (.bool false), (.int .i64 0), (.int .i64 0), (.int .i64 0), .nils, .nils, .nils, .nils, (.int .i64 0), (.int .i64 0), (.int .i64 0)] 0 cs185)[6]?).bind fun x192 =>
 (L.asBool (splice [(.int .i64 0), (.int .i64 0), (.str (ByteArray.mk #[])), (.int .i64 0), (.int .i64 0), (.int .i64 0), (.int .i64 0), (.bool false), (.bool false), (.int .i64 0), (.int .i64 0), (.int .i64 0), .nils, .nils, .nils, .nils, (.int .i64 0), (.int .i64 0), (.int .i64 0)] 0 cs185)[7]?).bind fun x193 =>
 (L.asBool (splice [(.int .i64 0), (.int .i64 0), (.str (ByteArray.mk #[])), (.int .i64 0), (.int .i64 0), (.int .i64 0), (.int .i64 0), (.bool false), (.bool false), (.int .i64 0), (.int .i64 0), (.int .i64 0), .nils, .nils, .nils, .nils, (.int .i64 0), (.int .i64 0), (.int .i64 0)] 0 cs185)[8]?).bind fun x194 =>
 (L.asInt .i64 (splice [(.int .i64 0), (.int .i64 0), (.str (ByteArray.mk #[])), (.int .i64 0), (.int .i64 0), (.int .i64 0), (.int .i64 0), (.bool false), (.bool false), (.int .i64 0), (.int .i64 0), (.int .i64 0), .nils, .nils, .nils, .nils, (.int .i64 0), (.int .i64 0), (.int .i64 0)] 0 cs185)[9]?).bind fun x195 =>
 (L.asInt .i64 (splice [(.int .i64 0), (.int .i64 0), (.str (ByteArray.mk #[])), (.int .i64 0), (.int .i64 0), (.int .i64 0), (.int .i64 0), (.bool false), (.bool false), (.int .i64 0), (.int .i64 0), (.int .i64 0), .nils, .nils, .nils, .nils, (.int .i64 0), (.int .i64 0), (.int .i64 0)] 0 cs185)[10]?).bind fun x196 =>
 (L.asInt .i64 (splice [(.int .i64 0), (.int .i64 0), (.str (ByteArray.mk #[])), (.int .i64 0), (.int .i64 0), (.int .i64 0), (.int .i64 0), (.bool false), (.bool false), (.int .i64 0), (.int .i64 0), (.int .i64 0), .nils, .nils, .nils, .nils, (.int .i64 0), (.int .i64 0), (.int .i64 0)] 0 cs185)[11]?).bind fun x197 =>
 ((splice [(.int .i64 0), (.int .i64 0), (.str (ByteArray.mk #[])), (.int .i64 0), (.int .i64 0), (.int .i64 0), (.int .i64 0), (.bool false), (.bool false), (.int .i64 0), (.int .i64 0), (.int .i64 0), .nils, .nils, .nils, .nils, (.int .i64 0), (.int .i64 0), (.int .i64 0)] 0 cs185)[12]?).bind fun x198 =>
 ((splice [(.int .i64 0), (.int .i64 0), (.str (ByteArray.mk #[])), (.int .i64 0), (.int .i64 0), (.int .i64 0), (.int .i64 0), (.bool false), (.bool false), (.int .i64 0), (.int .i64 0), (.int .i64 0), .nils, .nils, .nils, .nils, (.int .i64 0), (.int .i64 0), (.int .i64 0)] 0 cs185)[13]?).bind fun x199 =>
 ((if 0 + 19 ≤ ((splice [(.int .i64 0), (.int .i64 0), (.str (ByteArray.mk #[])), (.int .i64 0), (.int .i64 0), (.int .i64 0), (.int .i64 0), (.bool false), (.bool false), (.int .i64 0), (.int .i64 0), (.int .i64 0), .nils, .nils, .nils, .nils, (.int .i64 0), (.int .i64 0), (.int .i64 0)] 0 cs185)).length then some ((((splice [(.int .i64 0), (.int .i64 0), (.str (ByteArray.mk #[])), (.int .i64 0), (.int .i64 0), (.int .i64 0), (.int .i64 0), (.bool false), (.bool false), (.int .i64 0), (.int .i64 0), (.int .i64 0), .nils, .nils, .nils, .nils, (.int .i64 0), (.int .i64 0), (.int .i64 0)] 0 cs185)).drop 0).take 19) else none) : Option (List V)).bind fun cs200 =>
 (F44 N (x170, x171, x172, x173, x174, x175, x176, x177, x178, x179, x180, x181, x182, cs200, h183)).bind fun (x201, h202) =>
 (if (!x201) = true then (
 some (true, h202))
 else (
 (nck x165).bind fun _ =>
 ((rd h202 (padd x165 3) 0)).bind fun x205 =>
 (F45 N (x205, x190, x191, h202)).bind fun (x206, h207) =>
 some ((x206 != 0), h207))).bind fun (b203, h204) =>
 (if b203 = true then (
 none)
 else (
 (L.asInt .i64 (splice [(.int .i64 0), (.int .i64 0), (.str (ByteArray.mk #[])), (.int .i64 0), (.int .i64 0), (.int .i64 0), (.int .i64 0), (.bool false), (.bool false), (.int .i64 0), (.int .i64 0), (.int .i64 0), .nils, .nils, .nils, .nils, (.int .i64 0), (.int .i64 0), (.int .i64 0)] 0 cs185)[18]?).bind fun x208 =>
 (some (h204 ++ [O.cells 0 [(.int .i64 x186), (.int .i64 x187), (.int .i64 x191), (.int .i64 x190), (.int .i64 x192), .nilp, .nilp, (.int .i64 x189), (.bool x193), (.bool x194), (.int .i64 x195), (.int .i64 x208)]]) : Option H).bind fun h209 =>
 (F46 N (x198, x199, h209)).bind fun (x210, x211, h212) =>
 (ck1 x210).bind fun _ =>
 (wr h212 (.ptr (h204).length 0 5) [x210]).bind fun h213 =>
 ((splice [(.int .i64 0), (.int .i64 0), (.str (ByteArray.mk #[])), (.int .i64 0), (.int .i64 0), (.int .i64 0), (.int .i64 0), (.bool false), (.bool false), (.int .i64 0), (.int .i64 0), (.int .i64 0), .nils, .nils, .nils, .nils, (.int .i64 0), (.int .i64 0), (.int .i64 0)] 0 cs185)[14]?).bind fun x214 =>
 ((splice [(.int .i64 0), (.int .i64 0), (.str (ByteArray.mk #[])), (.int .i64 0), (.int .i64 0), (.int .i64 0), (.int .i64 0), (.bool false), (.bool false), (.int .i64 0), (.int .i64 0), (.int .i64 0), .nils, .nils, .nils, .nils, (.int .i64 0), (.int .i64 0), (.int .i64 0)] 0 cs185)[15]?).bind fun x215 =>
 ((if 16 + 2 ≤ ((splice [(.int .i64 0), (.int .i64 0), (.str (ByteArray.mk #[])), (.int .i64 0), (.int .i64 0), (.int .i64 0), (.int .i64 0), (.bool false), (.bool false), (.int .i64 0), (.int .i64 0), (.int .i64 0), .nils, .nils, .nils, .nils, (.int .i64 0), (.int .i64 0), (.int .i64 0)] 0 cs185)).length then some ((((splice [(.int .i64 0), (.int .i64 0), (.str (ByteArray.mk #[])), (.int .i64 0), (.int .i64 0), (.int .i64 0), (.int .i64 0), (.bool false), (.bool false), (.int .i64 0), (.int .i64 0), (.int .i64 0), .nils, .nils, .nils, .nils, (.int .i64 0), (.int .i64 0), (.int .i64 0)] 0 cs185)).drop 16).take 2) else none) : Option (List V)).bind fun cs216 =>
 (F47 N (x214, x215, cs216, h213)).bind fun (x217, x218, h219) =>
 (ck1 x217).bind fun _ =>
 (wr h219 (.ptr (h204).length 0 6) [x217]).bind fun h220 =>
 (nck x165).bind fun _ =>
 ((rd h220 (padd x165 6) 0)).bind fun x221 =>
 (hmapset h220 x221 (.int .i64 x186) (.ptr (h204).length 0 0)).bind fun h222 =>
 ((if (x189 == 1) = true then (
 some (x165, (IntKind.i64.wrap (x166 + 1)), x167, x168, x169, x170, x171, x172, x173, x174, x175, x176, x177, x178, x179, x180, x181, x182, h222))
 else (
 some (x165, x166, x167, x168, x169, x170, x171, x172, x173, x174, x175, x176, x177, x178, x179, x180, x181, x182, h222))) : Option (V × Int × V × Int × Int × V × V × V × V × V × V × V × V × V × V × Int × Int × V × H)).bind fun (x223, x224, x225, x226, x227, x228, x229, x230, x231, x232, x233, x234, x235, x236, x237, x238, x239, x240, h241) =>
 L19_1 N n (x223, x224, x225, x226, (IntKind.i64.wrap (x227 + 1)), x228, x229, x230, x231, x232, x233, x234, x235, x236, x237, x238, x239, x240, h241)))) else none)) else none))
 else (
 some (x165, x166, x170, x171, x172, x173, x174, x175, x176, x177, x178, x179, x180, x181, x182, h183)))
def L19_2 (N : Nat) : Nat → V × Int × V × Int × Int × V × V × V × V × V × V × V × V × V × V × Int × Int × V × H → Option (V × Int × V × V × V × V × V × V × V × V × V × V × Int × Int × V × H)
 | 0, _ => none
 | n + 1, (x286, x287, x288, x289, x290, x291, x292, x293, x294, x295, x296, x297, x298, x299, x300, x301, x302, x303, h304) =>
 (if (decide (x290 < x289)) = true then (
 (sidx x288 x290 3).bind fun q305 =>
 (rdN h304 q305 3).bind fun cs306 =>
 (if (cs306).length = 3 then (
 (if 0 + (cs306).length ≤ 3 then (
 ((splice [.nils, .nils, .nils] 0 cs306)[0]?).bind fun x307 =>
 (slen x307).bind fun n308 =>
 ((splice [.nils, .nils, .nils] 0 cs306)[1]?).bind fun x309 =>
 (slen x309).bind fun n310 =>
 ((splice [.nils, .nils, .nils] 0 cs306)[2]?).bind fun x311 =>
 (slen x311).bind fun n312 =>
 L19_2 N n (x286, (IntKind.i64.wrap (x287 - (IntKind.i64.wrap ((IntKind.i64.wrap (n308 + n310)) + n312)))), x288, x289, (IntKind.i64.wrap (x290 + 1)), x291, x292, x293, x294, x295, x296, x297, x298, x299, x300, x301, x302, x303, h304)) else none)) else none))
 else (
 some (x286, x287, x291, x292, x293, x294, x295, x296, x297, x298, x299, x300, x301, x302, x303, h304)))
def F19 (N : Nat) : V × V × V × V × V × V × V × V × V × V × Int × Int × V × H → Option (V × Int × H)
 | (a0_0, a0_1, a0_2, a0_3, a0_4, a0_5, a0_6, a0_7, a0_8, a0_9, a0_10, a0_11, a0_12, h) =>
 (F42 N (a0_0, a0_1, a0_2, a0_3, a0_4, a0_5, a0_6, a0_7, a0_8, a0_9, a0_10, a0_11, a0_12, h)).bind fun (x1, h2) =>
 (if (!x1) = true then (
 none)
 else (
 (slen a0_4).bind fun n3 =>
 Option.bind (α := (V × Int × H)) (tabC rs20 TB20 [(.int .i64 n3), a0_0] h2) fun (x4, x5, h6) =>
 (slen a0_2).bind fun n7 =>
 (L19_0 N N (x4, .nils, .nils, a0_2, n7, 0, a0_0, a0_1, a0_2, a0_3, a0_4, a0_5, a0_6, a0_7, a0_8, a0_9, a0_10, a0_11, a0_12, h6)).bind fun (x66, x67, x68, x69, x70, x71, x72, x73, x74, x75, x76, x77, x78, x79, x80, x81, h82) =>
 (F43 N (x72, x67, x68, h82)).bind fun (x83, x84, h85) =>
 (if (x84 != 0) = true then (
 none)
 else (
 (nck x66).bind fun _ =>
 (ck1 x83).bind fun _ =>
 (wr h85 (padd x66 2) [x83]).bind fun h86 =>
 (slen x71).bind fun n87 =>
 (L19_1 N N (x66, 0, x71, n87, 0, x69, x70, x71, x72, x73, x74, x75, x76, x77, x78, x79, x80, x81, h86)).bind fun (x242, x243, x244, x245, x246, x247, x248, x249, x250, x251, x252, x253, x254, x255, x256, h257) =>
 (slen x248).bind fun n258 =>
 (L19_2 N N (x242, x243, x248, n258, 0, x244, x245, x246, x247, x248, x249, x250, x251, x252, x253, x254, x255, x256, h257)).bind fun (x313, x314, x315, x316, x317, x318, x319, x320, x321, x322, x323, x324, x325, x326, x327, h328) =>
 (if (x314 != 0) = true then (
 some (true, h328))
 else (
 (F48 N (x313, x315, x316, x317, x318, x319, x320, x321, x322, x323, x324, x325, x326, x327, h328)).bind fun (x331, h332) =>
 some ((!x331), h332))).bind fun (b329, h330) =>
 (if b329 = true then (
 none)
 else (
 Option.bind (α := (V × H)) (locF true ks32 rs32 (F32 N) ((x316, h330) : V × H)) fun (x333, h334) =>
 Option.bind (α := (V × H)) (locF true ks41 rs41 (F41 N) ((x327, h334) : V × H)) fun (x335, h336) =>
 (nck x313).bind fun _ =>
 (ck1 x333).bind fun _ =>
 (wr h336 (padd x313 1) [x333]).bind fun h337 =>
 (nck x313).bind fun _ =>
 (wr h337 (padd x313 7) [(.int .i64 x325)]).bind fun h338 =>
 (nck x313).bind fun _ =>
 (wr h338 (padd x313 8) [(.int .i64 x326)]).bind fun h339 =>
 (nck x313).bind fun _ =>
 (ck1 x335).bind fun _ =>
 (wr h339 (padd x313 9) [x335]).bind fun h340 =>
 some (x313, 0, h340)))))))
abbrev ks19 : List SK := [.agg [.ref, .ref, .ref, .ref, .ref, .ref, .ref, .ref, .ref, .ref, (.int .i64), (.int .i64), .ref]]
abbrev rs19 : List SK := [.one .ref, .one (.int .i64)]
def e19 (N : Nat) : Env := ⟨Tryz.prog, 198, inTab [1, 9, 14, 15, 18, 42, 48], inTab [], natTab [(1, 1), (9, 9), (14, 14), (15, 15), (18, 18), (23, 1), (26, 1), (31, 1), (39, 9), (40, 9), (45, 9), (46, 9), (52, 1), (65, 1), (72, 14), (83, 15), (85, 15), (90, 15), (92, 15), (94, 15), (96, 15), (98, 15), (100, 15), (102, 15), (104, 15), (106, 14), (112, 15), (121, 14), (123, 14), (125, 14), (136, 15), (137, 15), (140, 15), (146, 1), (154, 18), (157, 18), (161, 18), (179, 1), (182, 1), (184, 1), (186, 1)], inTab [], calTab [(42, .full (mkFun ks42 rs42 (F42 N))), (20, .full (tabF rs20 TB20)), (43, .full (mkFun ks43 rs43 (F43 N))), (44, .full (mkFun ks44 rs44 (F44 N))), (45, .full (mkFun ks45 rs45 (F45 N))), (46, .full (mkFun ks46 rs46 (F46 N))), (47, .full (mkFun ks47 rs47 (F47 N))), (48, .full (mkFun ks48 rs48 (F48 N))), (32, .gro (mkFun ks32 rs32 (locF true ks32 rs32 (F32 N)))), (41, .gro (mkFun ks41 rs41 (locF true ks41 rs41 (F41 N))))], altTab [(1835150, [⟨.normal, [1, 4, 12, 66, 67, 68], [.lp 1 0, .one .ref, .one (.int .i64), .one .ref, .one (.int .i64), .one (.int .i64)], [1], [.cells [.ref, .ref, .ref, .ref, .ref, .ref, .ref, .ref, .ref, .ref, (.int .i64), (.int .i64), .ref]]⟩])], loopTab [(7, ⟨⟨.normal, [1, 4, 6, 7, 32, 33, 34], [.lp 1 0, .one .ref, .one .ref, .one .ref, .one .ref, .one (.int .i64), .one (.int .i64)], [1], [.cells [.ref, .ref, .ref, .ref, .ref, .ref, .ref, .ref, .ref, .ref, (.int .i64), (.int .i64), .ref]]⟩, [⟨(.exit 0), [1, 4, 6, 7], [.lp 1 0, .one .ref, .one .ref, .one .ref], [1], [.cells [.ref, .ref, .ref, .ref, .ref, .ref, .ref, .ref, .ref, .ref, (.int .i64), (.int .i64), .ref]]⟩], L19_0 N⟩), (18, ⟨⟨.normal, [1, 4, 12, 66, 67, 68], [.lp 1 0, .one .ref, .one (.int .i64), .one .ref, .one (.int .i64), .one (.int .i64)], [1], [.cells [.ref, .ref, .ref, .ref, .ref, .ref, .ref, .ref, .ref, .ref, (.int .i64), (.int .i64), .ref]]⟩, [⟨(.exit 2), [1, 4, 12], [.lp 1 0, .one .ref, .one (.int .i64)], [1], [.cells [.ref, .ref, .ref, .ref, .ref, .ref, .ref, .ref, .ref, .ref, (.int .i64), (.int .i64), .ref]]⟩], L19_1 N⟩), (31, ⟨⟨.normal, [1, 4, 12, 147, 148, 149], [.lp 1 0, .one .ref, .one (.int .i64), .one .ref, .one (.int .i64), .one (.int .i64)], [1], [.cells [.ref, .ref, .ref, .ref, .ref, .ref, .ref, .ref, .ref, .ref, (.int .i64), (.int .i64), .ref]]⟩, [⟨(.exit 4), [1, 4, 12], [.lp 1 0, .one .ref, .one (.int .i64)], [1], [.cells [.ref, .ref, .ref, .ref, .ref, .ref, .ref, .ref, .ref, .ref, (.int .i64), (.int .i64), .ref]]⟩], L19_2 N⟩)], natTab [], inTab [2, 14, 22, 36]⟩
theorem l19_0 (N : Nat) : ∀ A, (e19 N).lp (lid (loopAt Tryz.f19 0)) = some A → LoopOk (e19 N) N (loopAt Tryz.f19 0) A :=
  loopOk_of (A := ⟨⟨.normal, [1, 4, 6, 7, 32, 33, 34], [.lp 1 0, .one .ref, .one .ref, .one .ref, .one .ref, .one (.int .i64), .one (.int .i64)], [1], [.cells [.ref, .ref, .ref, .ref, .ref, .ref, .ref, .ref, .ref, .ref, (.int .i64), (.int .i64), .ref]]⟩, [⟨(.exit 0), [1, 4, 6, 7], [.lp 1 0, .one .ref, .one .ref, .one .ref], [1], [.cells [.ref, .ref, .ref, .ref, .ref, .ref, .ref, .ref, .ref, .ref, (.int .i64), (.int .i64), .ref]]⟩], L19_0 N⟩) (by kernel_rfl) (fun _ => rfl) (fun _ _ => by kernel_rfl)
theorem l19_1 (N : Nat) : ∀ A, (e19 N).lp (lid (loopAt Tryz.f19 1)) = some A → LoopOk (e19 N) N (loopAt Tryz.f19 1) A :=
  loopOk_of (A := ⟨⟨.normal, [1, 4, 12, 66, 67, 68], [.lp 1 0, .one .ref, .one (.int .i64), .one .ref, .one (.int .i64), .one (.int .i64)], [1], [.cells [.ref, .ref, .ref, .ref, .ref, .ref, .ref, .ref, .ref, .ref, (.int .i64), (.int .i64), .ref]]⟩, [⟨(.exit 2), [1, 4, 12], [.lp 1 0, .one .ref, .one (.int .i64)], [1], [.cells [.ref, .ref, .ref, .ref, .ref, .ref, .ref, .ref, .ref, .ref, (.int .i64), (.int .i64), .ref]]⟩], L19_1 N⟩) (by kernel_rfl) (fun _ => rfl) (fun _ _ => by kernel_rfl)
theorem l19_2 (N : Nat) : ∀ A, (e19 N).lp (lid (loopAt Tryz.f19 2)) = some A → LoopOk (e19 N) N (loopAt Tryz.f19 2) A :=
  loopOk_of (A := ⟨⟨.normal, [1, 4, 12, 147, 148, 149], [.lp 1 0, .one .ref, .one (.int .i64), .one .ref, .one (.int .i64), .one (.int .i64)], [1], [.cells [.ref, .ref, .ref, .ref, .ref, .ref, .ref, .ref, .ref, .ref, (.int .i64), (.int .i64), .ref]]⟩, [⟨(.exit 4), [1, 4, 12], [.lp 1 0, .one .ref, .one (.int .i64)], [1], [.cells [.ref, .ref, .ref, .ref, .ref, .ref, .ref, .ref, .ref, .ref, (.int .i64), (.int .i64), .ref]]⟩], L19_2 N⟩) (by kernel_rfl) (fun _ => rfl) (fun _ _ => by kernel_rfl)
theorem fine19 (N : Nat) : Fine (e19 N) N 19 Tryz.f19 ks19 rs19 (F19 N) :=
  ⟨Tryz.func19, by kernel_rfl, by kernel_rfl, by kernel_rfl, loops_of ⟨l19_0 N, ⟨l19_1 N, ⟨l19_2 N, trivial⟩⟩⟩, by kernel_rfl, by kernel_rfl, fun _ => by kernel_rfl⟩
theorem good19 (N : Nat) : Go.L.Good (e19 N) := good_of ⟨gd42 N, ⟨gt20, ⟨gd43 N, ⟨gd44 N, ⟨gd45 N, ⟨gd46 N, ⟨gd47 N, ⟨gd48 N, ⟨gl32 N, ⟨gl41 N, trivial⟩⟩⟩⟩⟩⟩⟩⟩⟩⟩
theorem gd19 (N : Nat) : CalOk Tryz.prog 19 (.full (mkFun ks19 rs19 (F19 N))) := mkFun_good (fine19 N) (good19 N)
theorem gl19 (N : Nat) : CalOk Tryz.prog 19 (.full (mkFun ks19 rs19 (locF false ks19 rs19 (F19 N)))) := loc_full (gd19 N)


end
end Go.Proofs.YtgipaccfnlklcaaGreatDoor
