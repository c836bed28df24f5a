/- The functions that the law reaches, as plain ones (printed by gen.py). -/
import Derived.Test.YtgipaccfnlklcaaGreatDoorh1
set_option linter.unusedVariables false
set_option maxRecDepth 100000
namespace Go.Proofs.YtgipaccfnlklcaaGreatDoor
noncomputable section
open Go.L

/-! ### 18: node.Node).Snap -/
def L18_0 (N : Nat) : Nat → V × V × Int × Int × V × V × V × V × V × V × V × V × V × V × Int × Int × V × V × V × V × V × V × V × V × V × V × V × Int × Int × V × H → Option (V × V × V × V × V × V × V × V × V × V × V × Int × Int × V × V × V × V × V × V × V × V × V × V × V × Int × Int × V × H)
 | 0, _ => none
 | n + 1, (x75, x76, x77, x78, x79, x80, x81, x82, x83, x84, x85, x86, x87, x88, x89, x90, x91, x92, x93, x94, x95, x96, x97, x98, x99, x100, x101, x102, x103, x104, h105) =>
 (if (decide (x78 < x77)) = true then (
 (sidx x76 x78 1).bind fun q106 =>
 ((rd h105 q106 0)).bind fun x107 =>
 (nck x107).bind fun _ =>
 ((rd h105 (padd x107 6) 0)).bind fun x108 =>
 (nck x107).bind fun _ =>
 ((rd h105 (padd x107 6) 0)).bind fun x109 =>
 (nck x107).bind fun _ =>
 ((rd h105 (padd x107 6) 0)).bind fun x110 =>
 (nck x107).bind fun _ =>
 (L.asInt .i64 (rd h105 (padd x107 11) 0)).bind fun x111 =>
 (F26 N (x75, x107, h105)).bind fun (x112, x113, x114, x115, x116, x117, x118, x119, x120, x121, x122, x123, x124, x125, h126) =>
 (F35 N (x108, 0, h126)).bind fun (x127, h128) =>
 (F35 N (x109, 1, h128)).bind fun (x129, h130) =>
 (F36 N (x110, h130)).bind fun (cs131, _) =>
 (L.asAgg 2 (some (.agg cs131))).bind fun cs132 =>
 (ck1 x127).bind fun _ =>
 (ck1 x129).bind fun _ =>
 (if (cs132).length = 2 then (
 (if 16 + (cs132).length ≤ 19 then (
 (if 18 + 1 ≤ ((splice [(.int .i64 x112), (.int .i64 x113), (.str x114), (.int .i64 x115), (.int .i64 x116), (.int .i64 x117), (.int .i64 x118), (.bool x119), (.bool x120), (.int .i64 x121), (.int .i64 x122), (.int .i64 x123), x124, x125, x127, x129, (.int .i64 0), (.int .i64 0), (.int .i64 0)] 16 cs132)).length then (
 (if ((splice (splice [(.int .i64 x112), (.int .i64 x113), (.str x114), (.int .i64 x115), (.int .i64 x116), (.int .i64 x117), (.int .i64 x118), (.bool x119), (.bool x120), (.int .i64 x121), (.int .i64 x122), (.int .i64 x123), x124, x125, x127, x129, (.int .i64 0), (.int .i64 0), (.int .i64 0)] 16 cs132) 18 [(.int .i64 x111)])).length = 19 then (
 (if 0 + ((splice (splice [(.int .i64 x112), (.int .i64 x113), (.str x114), (.int .i64 x115), (.int .i64 x116), (.int .i64 x117), (.int .i64 x118), (.bool x119), (.bool x120), (.int .i64 x121), (.int .i64 x122), (.int .i64 x123), x124, x125, x127, x129, (.int .i64 0), (.int .i64 0), (.int .i64 0)] 16 cs132) 18 [(.int .i64 x111)])).length ≤ 19 then (
 (scells h130 (.rs 19 (chunks 19 1 (splice [(.int .i64 0), (.int .i64 0), (.str (ByteArray.mk #[])), (.int .i64 0), (.int .i64 0), (.int .i64 0), (.int .i64 0), (.bool false), (.bool false), (.int .i64 0), (.int .i64 0), (.int .i64 0), .nils, .nils, .nils, .nils, (.int .i64 0), (.int .i64 0), (.int .i64 0)] 0 (splice (splice [(.int .i64 x112), (.int .i64 x113), (.str x114), (.int .i64 x115), (.int .i64 x116), (.int .i64 x117), (.int .i64 x118), (.bool x119), (.bool x120), (.int .i64 x121), (.int .i64 x122), (.int .i64 x123), x124, x125, x127, x129, (.int .i64 0), (.int .i64 0), (.int .i64 0)] 16 cs132) 18 [(.int .i64 x111)])))) 19).bind fun cs135 =>
 (happ h130 x94 19 (snlen (.rs 19 (chunks 19 1 (splice [(.int .i64 0), (.int .i64 0), (.str (ByteArray.mk #[])), (.int .i64 0), (.int .i64 0), (.int .i64 0), (.int .i64 0), (.bool false), (.bool false), (.int .i64 0), (.int .i64 0), (.int .i64 0), .nils, .nils, .nils, .nils, (.int .i64 0), (.int .i64 0), (.int .i64 0)] 0 (splice (splice [(.int .i64 x112), (.int .i64 x113), (.str x114), (.int .i64 x115), (.int .i64 x116), (.int .i64 x117), (.int .i64 x118), (.bool x119), (.bool x120), (.int .i64 x121), (.int .i64 x122), (.int .i64 x123), x124, x125, x127, x129, (.int .i64 0), (.int .i64 0), (.int .i64 0)] 16 cs132) 18 [(.int .i64 x111)]))))) cs135).bind fun (v133, h134) =>
 (ck1 v133).bind fun _ =>
 L18_0 N n (x75, x76, x77, (IntKind.i64.wrap (x78 + 1)), x79, x80, x81, x82, x83, x84, x85, x86, x87, x88, x89, x90, x91, x92, x93, v133, x95, x96, x97, x98, x99, x100, x101, x102, x103, x104, h134)) else none)) else none)) else none)) else none)) else none))
 else (
 some (x75, x79, x80, x81, x82, x83, x84, x85, x86, x87, x88, x89, x90, x91, x92, x93, x94, x95, x96, x97, x98, x99, x100, x101, x102, x103, x104, h105)))
def L18_2 (N : Nat) : Nat → V × V × Int × Int × Int × V × V × V × V × V × V × V × V × V × V × Int × Int × V × V × V × V × V × V × V × V × V × V × V × Int × Int × V × V × V × Int × Int × List V × H → Option (V × V × Int × Int × V × V × V × V × V × V × V × V × V × V × Int × Int × V × V × V × V × V × V × V × V × V × V × V × Int × Int × V × V × V × Int × Int × List V × H)
 | 0, _ => none
 | n + 1, (x241, x242, x243, x244, x245, x246, x247, x248, x249, x250, x251, x252, x253, x254, x255, x256, x257, x258, x259, x260, x261, x262, x263, x264, x265, x266, x267, x268, x269, x270, x271, x272, x273, x274, x275, cs276, h277) =>
 (if (decide (x245 < 3)) = true then (
 (F37 N (x272, x245, h277)).bind fun (x278, h279) =>
 (if 0 ≤ x245 then (if x245 < 3 then (
 (ck1 x278).bind fun _ =>
 (if (0 + Int.toNat x245 * 1) + 1 ≤ (cs276).length then (
 L18_2 N n (x241, x242, x243, x244, (IntKind.i64.wrap (x245 + 1)), x246, x247, x248, x249, x250, x251, x252, x253, x254, x255, x256, x257, x258, x259, x260, x261, x262, x263, x264, x265, x266, x267, x268, x269, x270, x271, x272, x273, x274, x275, (splice cs276 (0 + Int.toNat x245 * 1) [x278]), h279)) else none)) else none) else none))
 else (
 some (x241, x242, x243, x244, x246, x247, x248, x249, x250, x251, x252, x253, x254, x255, x256, x257, x258, x259, x260, x261, x262, x263, x264, x265, x266, x267, x268, x269, x270, x271, x272, x273, x274, x275, cs276, h277)))
def L18_1 (N : Nat) : Nat → V × V × Int × Int × V × V × V × V × V × V × V × V × V × V × Int × Int × V × V × V × V × V × V × V × V × V × V × V × Int × Int × V × H → Option (V × V × V × V × V × V × V × V × V × V × V × Int × Int × V × V × V × V × V × V × V × V × V × V × V × Int × Int × V × H)
 | 0, _ => none
 | n + 1, (x331, x332, x333, x334, x335, x336, x337, x338, x339, x340, x341, x342, x343, x344, x345, x346, x347, x348, x349, x350, x351, x352, x353, x354, x355, x356, x357, x358, x359, x360, h361) =>
 (if (decide (x334 < x333)) = true then (
 (sidx x332 x334 4).bind fun q362 =>
 ((rd h361 q362 0)).bind fun x363 =>
 ((rd h361 q362 1)).bind fun x364 =>
 (L.asInt .i64 (rd h361 q362 2)).bind fun x365 =>
 (L.asInt .i64 (rd h361 q362 3)).bind fun x366 =>
 (L18_2 N N (x331, x332, x333, x334, 0, x335, x336, x337, x338, x339, x340, x341, x342, x343, x344, x345, x346, x347, x348, x349, x350, x351, x352, x353, x354, x355, x356, x357, x358, x359, x360, x363, x364, x365, x366, [.nils, .nils, .nils], h361)).bind fun (x367, x368, x369, x370, x371, x372, x373, x374, x375, x376, x377, x378, x379, x380, x381, x382, x383, x384, x385, x386, x387, x388, x389, x390, x391, x392, x393, x394, x395, x396, x397, x398, x399, x400, cs401, h402) =>
 ((if 0 + 3 ≤ (cs401).length then some (((cs401).drop 0).take 3) else none) : Option (List V)).bind fun cs403 =>
 (if (cs403).length = 3 then (
 (if 0 + (cs403).length ≤ 3 then (
 (scells h402 (.rs 3 (chunks 3 1 (splice [.nils, .nils, .nils] 0 cs403))) 3).bind fun cs406 =>
 (happ h402 x388 3 (snlen (.rs 3 (chunks 3 1 (splice [.nils, .nils, .nils] 0 cs403)))) cs406).bind fun (v404, h405) =>
 (ck1 v404).bind fun _ =>
 (F38 N (x397, h405)).bind fun (x407, _) =>
 (happ h405 x389 1 1 [(.int .i64 x407)]).bind fun (v408, h409) =>
 (ck1 v408).bind fun _ =>
 (happ h409 x390 1 1 [(.int .i64 x399)]).bind fun (v410, h411) =>
 (ck1 v410).bind fun _ =>
 (happ h411 x391 1 1 [(.int .i64 x400)]).bind fun (v412, h413) =>
 (ck1 v412).bind fun _ =>
 (F39 N (x398, h413)).bind fun (x414, h415) =>
 (ck1 x414).bind fun _ =>
 (happ h415 x392 1 1 (List.flatMap V.cells [x414])).bind fun (v416, h417) =>
 (ck1 v416).bind fun _ =>
 L18_1 N n (x367, x368, x369, (IntKind.i64.wrap (x370 + 1)), x371, x372, x373, x374, x375, x376, x377, x378, x379, x380, x381, x382, x383, x384, x385, x386, x387, v404, v408, v410, v412, v416, x393, x394, x395, x396, h417)) else none)) else none))
 else (
 some (x331, x335, x336, x337, x338, x339, x340, x341, x342, x343, x344, x345, x346, x347, x348, x349, x350, x351, x352, x353, x354, x355, x356, x357, x358, x359, x360, h361)))
def F18 (N : Nat) : V × H → Option (V × V × V × V × V × V × V × V × V × V × Int × Int × V × H)
 | (a0, h) =>
 (F23 N (a0, h)).bind fun (x1, _) =>
 (if (!x1) = true then (
 some (.nils, .nils, .nils, .nils, .nils, .nils, .nils, .nils, .nils, .nils, 0, 0, .nils, h))
 else (
 (nck a0).bind fun _ =>
 ((rd h (padd a0 0) 0)).bind fun x2 =>
 (nck a0).bind fun _ =>
 ((rd h (padd a0 1) 0)).bind fun x3 =>
 (nck a0).bind fun _ =>
 ((rd h (padd a0 2) 0)).bind fun x4 =>
 Option.bind (α := (V × H)) (locF true ks31 rs31 (F31 N) ((x2, h) : V × H)) fun (x5, h6) =>
 Option.bind (α := (V × H)) (locF true ks32 rs32 (F32 N) ((x3, h6) : V × H)) fun (x7, h8) =>
 Option.bind (α := (V × H)) (locF true ks33 rs33 (F33 N) ((x4, h8) : V × H)) fun (x9, h10) =>
 (ck1 x5).bind fun _ =>
 (ck1 x7).bind fun _ =>
 (ck1 x9).bind fun _ =>
 (F34 N (a0, h10)).bind fun (x11, h12) =>
 (slen x11).bind fun n13 =>
 (L18_0 N N (a0, x11, n13, 0, .nils, .nils, .nils, .nils, .nils, .nils, .nils, .nils, .nils, .nils, 0, 0, .nils, x5, x7, .nils, x9, .nils, .nils, .nils, .nils, .nils, .nils, 0, 0, .nils, h12)).bind fun (x136, x137, x138, x139, x140, x141, x142, x143, x144, x145, x146, x147, x148, x149, x150, x151, x152, x153, x154, x155, x156, x157, x158, x159, x160, x161, x162, h163) =>
 (nck x136).bind fun _ =>
 ((rd h163 (padd x136 5) 0)).bind fun x164 =>
 (slen x164).bind fun n165 =>
 (L18_1 N N (x136, x164, n165, 0, x137, x138, x139, x140, x141, x142, x143, x144, x145, x146, x147, x148, x149, x150, x151, x152, x153, x154, x155, x156, x157, x158, x159, x160, x161, x162, h163)).bind fun (x418, x419, x420, x421, x422, x423, x424, x425, x426, x427, x428, x429, x430, x431, x432, x433, x434, x435, x436, x437, x438, x439, x440, x441, x442, x443, x444, h445) =>
 (nck x418).bind fun _ =>
 ((rd h445 (padd x418 4) 0)).bind fun x446 =>
 (nck x418).bind fun _ =>
 (L.asInt .i64 (rd h445 (padd x418 7) 0)).bind fun x447 =>
 (nck x418).bind fun _ =>
 (L.asInt .i64 (rd h445 (padd x418 8) 0)).bind fun x448 =>
 (nck x418).bind fun _ =>
 ((rd h445 (padd x418 9) 0)).bind fun x449 =>
 Option.bind (α := (V × H)) (locF true ks40 rs40 (F40 N) ((x446, h445) : V × H)) fun (x450, h451) =>
 Option.bind (α := (V × H)) (locF true ks41 rs41 (F41 N) ((x449, h451) : V × H)) fun (x452, h453) =>
 (ck1 x450).bind fun _ =>
 (ck1 x452).bind fun _ =>
 some (x432, x433, x434, x435, x436, x437, x438, x439, x440, x450, x447, x448, x452, h453)))
abbrev ks18 : List SK := [.one .ref]
abbrev rs18 : List SK := [.agg [.ref, .ref, .ref, .ref, .ref, .ref, .ref, .ref, .ref, .ref, (.int .i64), (.int .i64), .ref]]
def e18 (N : Nat) : Env := ⟨Tryz.prog, 147, inTab [2, 3, 7, 8, 64, 90, 98, 105, 112, 120], inTab [], natTab [(2, 2), (3, 3), (7, 7), (8, 8), (29, 3), (30, 3), (31, 3), (39, 3), (66, 3), (81, 7), (85, 8), (87, 3), (92, 3), (93, 3), (95, 7), (100, 3), (101, 3), (103, 7), (107, 3), (108, 3), (110, 7), (114, 3), (115, 3), (117, 7), (122, 3), (142, 3), (143, 3), (144, 3), (145, 3)], inTab [], calTab [(23, .ro (mkFun ks23 rs23 (F23 N))), (31, .gro (mkFun ks31 rs31 (locF true ks31 rs31 (F31 N)))), (32, .gro (mkFun ks32 rs32 (locF true ks32 rs32 (F32 N)))), (33, .gro (mkFun ks33 rs33 (locF true ks33 rs33 (F33 N)))), (34, .full (mkFun ks34 rs34 (F34 N))), (26, .gro (mkFun ks26 rs26 (F26 N))), (35, .gro (mkFun ks35 rs35 (F35 N))), (36, .ro (mkFun ks36 rs36 (F36 N))), (37, .full (mkFun ks37 rs37 (F37 N))), (38, .ro (mkFun ks38 rs38 (F38 N))), (39, .full (mkFun ks39 rs39 (F39 N))), (40, .gro (mkFun ks40 rs40 (locF true ks40 rs40 (F40 N)))), (41, .gro (mkFun ks41 rs41 (locF true ks41 rs41 (F41 N))))], altTab [], loopTab [(6, ⟨⟨.normal, [0, 2, 3, 33, 34, 35], [.one .ref, .lp 2 0, .lp 3 0, .one .ref, .one (.int .i64), .one (.int .i64)], [2, 3], [.cells [.ref, .ref, .ref, .ref, .ref, .ref, .ref, .ref, .ref, .ref, (.int .i64), (.int .i64), .ref], .cells [.ref, .ref, .ref, .ref, .ref, .ref, .ref, .ref, .ref, .ref, (.int .i64), (.int .i64), .ref]]⟩, [⟨(.exit 0), [0, 2, 3], [.one .ref, .lp 2 0, .lp 3 0], [2, 3], [.cells [.ref, .ref, .ref, .ref, .ref, .ref, .ref, .ref, .ref, .ref, (.int .i64), (.int .i64), .ref], .cells [.ref, .ref, .ref, .ref, .ref, .ref, .ref, .ref, .ref, .ref, (.int .i64), (.int .i64), .ref]]⟩], L18_0 N⟩), (11, ⟨⟨.normal, [0, 2, 3, 71, 72, 73], [.one .ref, .lp 2 0, .lp 3 0, .one .ref, .one (.int .i64), .one (.int .i64)], [2, 3], [.cells [.ref, .ref, .ref, .ref, .ref, .ref, .ref, .ref, .ref, .ref, (.int .i64), (.int .i64), .ref], .cells [.ref, .ref, .ref, .ref, .ref, .ref, .ref, .ref, .ref, .ref, (.int .i64), (.int .i64), .ref]]⟩, [⟨(.exit 2), [0, 2, 3], [.one .ref, .lp 2 0, .lp 3 0], [2, 3], [.cells [.ref, .ref, .ref, .ref, .ref, .ref, .ref, .ref, .ref, .ref, (.int .i64), (.int .i64), .ref], .cells [.ref, .ref, .ref, .ref, .ref, .ref, .ref, .ref, .ref, .ref, (.int .i64), (.int .i64), .ref]]⟩], L18_1 N⟩), (15, ⟨⟨.normal, [0, 2, 3, 7, 8, 71, 72, 73, 77], [.one .ref, .lp 2 0, .lp 3 0, .lp 7 0, .lp 8 0, .one .ref, .one (.int .i64), .one (.int .i64), .one (.int .i64)], [2, 3, 7, 8], [.cells [.ref, .ref, .ref, .ref, .ref, .ref, .ref, .ref, .ref, .ref, (.int .i64), (.int .i64), .ref], .cells [.ref, .ref, .ref, .ref, .ref, .ref, .ref, .ref, .ref, .ref, (.int .i64), (.int .i64), .ref], .cells [.ref, .ref, (.int .i64), (.int .i64)], .blk]⟩, [⟨(.exit 4), [0, 2, 3, 7, 8, 71, 72, 73], [.one .ref, .lp 2 0, .lp 3 0, .lp 7 0, .lp 8 0, .one .ref, .one (.int .i64), .one (.int .i64)], [2, 3, 7, 8], [.cells [.ref, .ref, .ref, .ref, .ref, .ref, .ref, .ref, .ref, .ref, (.int .i64), (.int .i64), .ref], .cells [.ref, .ref, .ref, .ref, .ref, .ref, .ref, .ref, .ref, .ref, (.int .i64), (.int .i64), .ref], .cells [.ref, .ref, (.int .i64), (.int .i64)], .blk]⟩], L18_2 N⟩)], natTab [], inTab []⟩
theorem l18_0 (N : Nat) : ∀ A, (e18 N).lp (lid (loopAt Tryz.f18 0)) = some A → LoopOk (e18 N) N (loopAt Tryz.f18 0) A :=
  loopOk_of (A := ⟨⟨.normal, [0, 2, 3, 33, 34, 35], [.one .ref, .lp 2 0, .lp 3 0, .one .ref, .one (.int .i64), .one (.int .i64)], [2, 3], [.cells [.ref, .ref, .ref, .ref, .ref, .ref, .ref, .ref, .ref, .ref, (.int .i64), (.int .i64), .ref], .cells [.ref, .ref, .ref, .ref, .ref, .ref, .ref, .ref, .ref, .ref, (.int .i64), (.int .i64), .ref]]⟩, [⟨(.exit 0), [0, 2, 3], [.one .ref, .lp 2 0, .lp 3 0], [2, 3], [.cells [.ref, .ref, .ref, .ref, .ref, .ref, .ref, .ref, .ref, .ref, (.int .i64), (.int .i64), .ref], .cells [.ref, .ref, .ref, .ref, .ref, .ref, .ref, .ref, .ref, .ref, (.int .i64), (.int .i64), .ref]]⟩], L18_0 N⟩) (by kernel_rfl) (fun _ => rfl) (fun _ _ => by kernel_rfl)
theorem l18_1 (N : Nat) : ∀ A, (e18 N).lp (lid (loopAt Tryz.f18 1)) = some A → LoopOk (e18 N) N (loopAt Tryz.f18 1) A :=
  loopOk_of (A := ⟨⟨.normal, [0, 2, 3, 71, 72, 73], [.one .ref, .lp 2 0, .lp 3 0, .one .ref, .one (.int .i64), .one (.int .i64)], [2, 3], [.cells [.ref, .ref, .ref, .ref, .ref, .ref, .ref, .ref, .ref, .ref, (.int .i64), (.int .i64), .ref], .cells [.ref, .ref, .ref, .ref, .ref, .ref, .ref, .ref, .ref, .ref, (.int .i64), (.int .i64), .ref]]⟩, [⟨(.exit 2), [0, 2, 3], [.one .ref, .lp 2 0, .lp 3 0], [2, 3], [.cells [.ref, .ref, .ref, .ref, .ref, .ref, .ref, .ref, .ref, .ref, (.int .i64), (.int .i64), .ref], .cells [.ref, .ref, .ref, .ref, .ref, .ref, .ref, .ref, .ref, .ref, (.int .i64), (.int .i64), .ref]]⟩], L18_1 N⟩) (by kernel_rfl) (fun _ => rfl) (fun _ _ => by kernel_rfl)
theorem l18_2 (N : Nat) : ∀ A, (e18 N).lp (lid (loopAt Tryz.f18 2)) = some A → LoopOk (e18 N) N (loopAt Tryz.f18 2) A :=
  loopOk_of (A := ⟨⟨.normal, [0, 2, 3, 7, 8, 71, 72, 73, 77], [.one .ref, .lp 2 0, .lp 3 0, .lp 7 0, .lp 8 0, .one .ref, .one (.int .i64), .one (.int .i64), .one (.int .i64)], [2, 3, 7, 8], [.cells [.ref, .ref, .ref, .ref, .ref, .ref, .ref, .ref, .ref, .ref, (.int .i64), (.int .i64), .ref], .cells [.ref, .ref, .ref, .ref, .ref, .ref, .ref, .ref, .ref, .ref, (.int .i64), (.int .i64), .ref], .cells [.ref, .ref, (.int .i64), (.int .i64)], .blk]⟩, [⟨(.exit 4), [0, 2, 3, 7, 8, 71, 72, 73], [.one .ref, .lp 2 0, .lp 3 0, .lp 7 0, .lp 8 0, .one .ref, .one (.int .i64), .one (.int .i64)], [2, 3, 7, 8], [.cells [.ref, .ref, .ref, .ref, .ref, .ref, .ref, .ref, .ref, .ref, (.int .i64), (.int .i64), .ref], .cells [.ref, .ref, .ref, .ref, .ref, .ref, .ref, .ref, .ref, .ref, (.int .i64), (.int .i64), .ref], .cells [.ref, .ref, (.int .i64), (.int .i64)], .blk]⟩], L18_2 N⟩) (by kernel_rfl) (fun _ => rfl) (fun _ _ => by kernel_rfl)
theorem fine18 (N : Nat) : Fine (e18 N) N 18 Tryz.f18 ks18 rs18 (F18 N) :=
  ⟨Tryz.func18, by kernel_rfl, by kernel_rfl, by kernel_rfl, loops_of ⟨l18_0 N, ⟨l18_1 N, ⟨l18_2 N, trivial⟩⟩⟩, by kernel_rfl, by kernel_rfl, fun _ => by kernel_rfl⟩
theorem good18 (N : Nat) : Go.L.Good (e18 N) := good_of ⟨gd23 N, ⟨gl31 N, ⟨gl32 N, ⟨gl33 N, ⟨gd34 N, ⟨gdg26 N, ⟨gdg35 N, ⟨gd36 N, ⟨gd37 N, ⟨gd38 N, ⟨gd39 N, ⟨gl40 N, ⟨gl41 N, trivial⟩⟩⟩⟩⟩⟩⟩⟩⟩⟩⟩⟩⟩
theorem gd18 (N : Nat) : CalOk Tryz.prog 18 (.full (mkFun ks18 rs18 (F18 N))) := mkFun_good (fine18 N) (good18 N)
theorem gl18 (N : Nat) : CalOk Tryz.prog 18 (.full (mkFun ks18 rs18 (locF false ks18 rs18 (F18 N)))) := loc_full (gd18 N)

/-! ### 101: wheel.class -/
def F101 (N : Nat) : Int × H → Option (Bool × H)
 | (a0, h) =>
 (if (decide (a0 ≥ 0)) = true then (
 some ((decide (a0 < 3)), h))
 else (
 some (false, h))).bind fun (b1, h2) =>
 some (b1, h2)
abbrev ks101 : List SK := [.one (.int .i64)]
abbrev rs101 : List SK := [.one .bool]
def e101 (N : Nat) : Env := ⟨Tryz.prog, 9, inTab [], inTab [], natTab [], inTab [], calTab [], altTab [], loopTab [], natTab [], inTab []⟩
theorem fine101 (N : Nat) : Fine (e101 N) N 101 Tryz.f101 ks101 rs101 (F101 N) :=
  ⟨Tryz.func101, by kernel_rfl, by kernel_rfl, by kernel_rfl, loops_of trivial, by kernel_rfl, by kernel_rfl, fun _ => by kernel_rfl⟩
theorem good101 (N : Nat) : Go.L.Good (e101 N) := good_of trivial
theorem gd101 : CalOk Tryz.prog 101 (.pure (mkP ks101 rs101 (F101 100))) := mkP_good (fine101 100) (good101 100) (by kernel_rfl) (by kernel_rfl)

/-! ### 49: wheel.Check -/
def L49_0 (N : Nat) : Nat → V × Int × Int × List V × H → Option (List V × H)
 | 0, _ => none
 | n + 1, (x11, x12, x13, cs14, h15) =>
 (if (decide (x13 < x12)) = true then (
 (sidx x11 x13 1).bind fun q16 =>
 (L.asInt .i64 (rd h15 q16 0)).bind fun x17 =>
 (F101 100 (x17, [])).bind fun (x18, _) =>
 (if (!x18) = true then (
 none)
 else (
 (if 0 ≤ x17 then (if x17 < 3 then (
 (if (0 + Int.toNat x17 * 1) + 1 ≤ (cs14).length then (
 L49_0 N n (x11, x12, (IntKind.i64.wrap (x13 + 1)), (splice cs14 (0 + Int.toNat x17 * 1) [(.bool true)]), h15)) else none)) else none) else none))))
 else (
 some (cs14, h15)))
def L49_1 (N : Nat) : Nat → Int × List V × H → Option (H)
 | 0, _ => none
 | n + 1, (x25, cs26, h27) =>
 (if (decide (x25 < 3)) = true then (
 (if 0 ≤ x25 then (if x25 < 3 then (
 (L.asBool cs26[((0 + Int.toNat x25 * 1) + 0)]?).bind fun x28 =>
 (if (!x28) = true then (
 none)
 else (
 L49_1 N n ((IntKind.i64.wrap (x25 + 1)), cs26, h27)))) else none) else none))
 else (
 some h27))
def F49 (N : Nat) : V × H → Option (Int × H)
 | (a0, h) =>
 (slen a0).bind fun n1 =>
 (if (decide (n1 > 64)) = true then (
 none)
 else (
 (slen a0).bind fun n2 =>
 (L49_0 N N (a0, n2, 0, [(.bool false), (.bool false), (.bool false)], h)).bind fun (cs19, h20) =>
 (L49_1 N N (0, cs19, h20)).bind fun h29 =>
 some (0, h29)))
abbrev ks49 : List SK := [.one .ref]
abbrev rs49 : List SK := [.one (.int .i64)]
def e49 (N : Nat) : Env := ⟨Tryz.prog, 30, inTab [3], inTab [], natTab [(3, 3), (20, 3), (26, 3)], inTab [], calTab [(101, .pure (mkP ks101 rs101 (F101 100)))], altTab [], loopTab [(5, ⟨⟨.normal, [3, 10, 11, 12], [.lp 3 0, .one .ref, .one (.int .i64), .one (.int .i64)], [3], [.blk]⟩, [⟨(.exit 0), [3], [.lp 3 0], [3], [.blk]⟩], L49_0 N⟩), (12, ⟨⟨.normal, [3, 22], [.lp 3 0, .one (.int .i64)], [3], [.blk]⟩, [⟨(.exit 2), [], [], [], []⟩], L49_1 N⟩)], natTab [], inTab [2, 8, 15]⟩
theorem l49_0 (N : Nat) : ∀ A, (e49 N).lp (lid (loopAt Tryz.f49 0)) = some A → LoopOk (e49 N) N (loopAt Tryz.f49 0) A :=
  loopOk_of (A := ⟨⟨.normal, [3, 10, 11, 12], [.lp 3 0, .one .ref, .one (.int .i64), .one (.int .i64)], [3], [.blk]⟩, [⟨(.exit 0), [3], [.lp 3 0], [3], [.blk]⟩], L49_0 N⟩) (by kernel_rfl) (fun _ => rfl) (fun _ _ => by kernel_rfl)
theorem l49_1 (N : Nat) : ∀ A, (e49 N).lp (lid (loopAt Tryz.f49 1)) = some A → LoopOk (e49 N) N (loopAt Tryz.f49 1) A :=
  loopOk_of (A := ⟨⟨.normal, [3, 22], [.lp 3 0, .one (.int .i64)], [3], [.blk]⟩, [⟨(.exit 2), [], [], [], []⟩], L49_1 N⟩) (by kernel_rfl) (fun _ => rfl) (fun _ _ => by kernel_rfl)
theorem fine49 (N : Nat) : Fine (e49 N) N 49 Tryz.f49 ks49 rs49 (F49 N) :=
  ⟨Tryz.func49, by kernel_rfl, by kernel_rfl, by kernel_rfl, loops_of ⟨l49_0 N, ⟨l49_1 N, trivial⟩⟩, by kernel_rfl, by kernel_rfl, fun _ => by kernel_rfl⟩
theorem good49 (N : Nat) : Go.L.Good (e49 N) := good_of ⟨gd101, trivial⟩
theorem gd49 (N : Nat) : CalOk Tryz.prog 49 (.ro (mkFun ks49 rs49 (F49 N))) := mkFun_ro (fine49 N) (good49 N) (by kernel_rfl)

/-! ### 87: node.within -/
def F87 (N : Nat) : Int × Int × Int × H → Option (Bool × H)
 | (a0, a1, a2, h) =>
 (if (decide (a0 ≥ a1)) = true then (
 some ((decide (a0 ≤ a2)), h))
 else (
 some (false, h))).bind fun (b1, h2) =>
 some (b1, h2)
abbrev ks87 : List SK := [.one (.int .i64), .one (.int .i64), .one (.int .i64)]
abbrev rs87 : List SK := [.one .bool]
def e87 (N : Nat) : Env := ⟨Tryz.prog, 15, inTab [], inTab [], natTab [], inTab [], calTab [], altTab [], loopTab [], natTab [], inTab []⟩
theorem fine87 (N : Nat) : Fine (e87 N) N 87 Tryz.f87 ks87 rs87 (F87 N) :=
  ⟨Tryz.func87, by kernel_rfl, by kernel_rfl, by kernel_rfl, loops_of trivial, by kernel_rfl, by kernel_rfl, fun _ => by kernel_rfl⟩
theorem good87 (N : Nat) : Go.L.Good (e87 N) := good_of trivial
theorem gd87 : CalOk Tryz.prog 87 (.pure (mkP ks87 rs87 (F87 100))) := mkP_good (fine87 100) (good87 100) (by kernel_rfl) (by kernel_rfl)

/-! ### 164: api.Entry] -/
def F164 (N : Nat) : Int × H → Option (V × Int × H)
 | (a0, h) =>
 (if (decide (a0 < 1)) = true then (
 some (true, h))
 else (
 some ((decide (a0 > 65536)), h))).bind fun (b1, h2) =>
 (if b1 = true then (
 none)
 else (
 (some (h2 ++ [O.cells 0 [(.int .i64 a0), .nils]]) : Option H).bind fun h3 =>
 some ((.ptr (h2).length 0 0), 0, h3)))
abbrev ks164 : List SK := [.one (.int .i64)]
abbrev rs164 : List SK := [.one .ref, .one (.int .i64)]
def e164 (N : Nat) : Env := ⟨Tryz.prog, 13, inTab [], inTab [], natTab [], inTab [], calTab [], altTab [], loopTab [], natTab [], inTab [2]⟩
theorem fine164 (N : Nat) : Fine (e164 N) N 164 Tryz.f164 ks164 rs164 (F164 N) :=
  ⟨Tryz.func164, by kernel_rfl, by kernel_rfl, by kernel_rfl, loops_of trivial, by kernel_rfl, by kernel_rfl, fun _ => by kernel_rfl⟩
theorem good164 (N : Nat) : Go.L.Good (e164 N) := good_of trivial
theorem gdg164 (N : Nat) : CalOk Tryz.prog 164 (.gro (mkFun ks164 rs164 (F164 N))) := mkFun_groC (fine164 N) (good164 N) (by kernel_rfl)

/-! ### 203: api.Entry]).Room -/
def F203 (N : Nat) : V × H → Option (Int × H)
 | (a0, h) =>
 (F120 N (a0, h)).bind fun (x1, _) =>
 (if (!x1) = true then (
 none)
 else (
 (nck a0).bind fun _ =>
 (L.asInt .i64 (rd h (padd a0 0) 0)).bind fun x2 =>
 (nck a0).bind fun _ =>
 ((rd h (padd a0 1) 0)).bind fun x3 =>
 (slen x3).bind fun n4 =>
 some ((IntKind.i64.wrap (x2 - n4)), h)))
abbrev ks203 : List SK := [.one .ref]
abbrev rs203 : List SK := [.one (.int .i64)]
def e203 (N : Nat) : Env := ⟨Tryz.prog, 16, inTab [], inTab [], natTab [], inTab [], calTab [(120, .ro (mkFun ks120 rs120 (F120 N)))], altTab [], loopTab [], natTab [], inTab [2]⟩
theorem fine203 (N : Nat) : Fine (e203 N) N 203 Tryz.f203 ks203 rs203 (F203 N) :=
  ⟨Tryz.func203, by kernel_rfl, by kernel_rfl, by kernel_rfl, loops_of trivial, by kernel_rfl, by kernel_rfl, fun _ => by kernel_rfl⟩
theorem good203 (N : Nat) : Go.L.Good (e203 N) := good_of ⟨gd120 N, trivial⟩
theorem gd203 (N : Nat) : CalOk Tryz.prog 203 (.ro (mkFun ks203 rs203 (F203 N))) := mkFun_ro (fine203 N) (good203 N) (by kernel_rfl)

/-! ### 165: api.Entry]).Join -/
def F165 (N : Nat) : V × V × H → Option (Int × H)
 | (a0, a1, h) =>
 (F120 N (a0, h)).bind fun (x1, _) =>
 (if (!x1) = true then (
 none)
 else (
 (slen a1).bind fun n2 =>
 (F203 N (a0, h)).bind fun (x3, _) =>
 (if (decide (n2 > x3)) = true then (
 none)
 else (
 (nck a0).bind fun _ =>
 ((rd h (padd a0 1) 0)).bind fun x4 =>
 (scells h a1 3).bind fun cs7 =>
 (happ h x4 3 (snlen a1) cs7).bind fun (v5, h6) =>
 (nck a0).bind fun _ =>
 (ck1 v5).bind fun _ =>
 (wr h6 (padd a0 1) [v5]).bind fun h8 =>
 some (0, h8)))))
abbrev ks165 : List SK := [.one .ref, .one .ref]
abbrev rs165 : List SK := [.one (.int .i64)]
def e165 (N : Nat) : Env := ⟨Tryz.prog, 22, inTab [], inTab [], natTab [], inTab [], calTab [(120, .ro (mkFun ks120 rs120 (F120 N))), (203, .ro (mkFun ks203 rs203 (F203 N)))], altTab [], loopTab [], natTab [], inTab [2, 4]⟩
theorem fine165 (N : Nat) : Fine (e165 N) N 165 Tryz.f165 ks165 rs165 (F165 N) :=
  ⟨Tryz.func165, by kernel_rfl, by kernel_rfl, by kernel_rfl, loops_of trivial, by kernel_rfl, by kernel_rfl, fun _ => by kernel_rfl⟩
theorem good165 (N : Nat) : Go.L.Good (e165 N) := good_of ⟨gd120 N, ⟨gd203 N, trivial⟩⟩
theorem gd165 (N : Nat) : CalOk Tryz.prog 165 (.full (mkFun ks165 rs165 (F165 N))) := mkFun_good (fine165 N) (good165 N)

/-! ### 129: core.filled -/
def F129 (N : Nat) : V × H → Option (V × H)
 | (a0, h) =>
 (F164 N (64, h)).bind fun (x1, x2, h3) =>
 (F165 N (x1, a0, h3)).bind fun (x4, h5) =>
 (ck1 x1).bind fun _ =>
 some (x1, h5)
abbrev ks129 : List SK := [.one .ref]
abbrev rs129 : List SK := [.agg [.ref]]
def e129 (N : Nat) : Env := ⟨Tryz.prog, 14, inTab [2], inTab [], natTab [(2, 2)], inTab [], calTab [(164, .gro (mkFun ks164 rs164 (F164 N))), (165, .full (mkFun ks165 rs165 (F165 N)))], altTab [], loopTab [], natTab [], inTab []⟩
theorem fine129 (N : Nat) : Fine (e129 N) N 129 Tryz.f129 ks129 rs129 (F129 N) :=
  ⟨Tryz.func129, by kernel_rfl, by kernel_rfl, by kernel_rfl, loops_of trivial, by kernel_rfl, by kernel_rfl, fun _ => by kernel_rfl⟩
theorem good129 (N : Nat) : Go.L.Good (e129 N) := good_of ⟨gdg164 N, ⟨gd165 N, trivial⟩⟩
theorem gd129 (N : Nat) : CalOk Tryz.prog 129 (.full (mkFun ks129 rs129 (F129 N))) := mkFun_good (fine129 N) (good129 N)

/-! ### 88: core.Load -/
def L88_1 (N : Nat) : Nat → V × Int × V × Bool × List V × Int × V × Int × Int × List V × H → Option (V × Int × V × Bool × List V × Int × List V × H)
 | 0, _ => none
 | n + 1, (x43, x44, x45, x46, cs47, x48, x49, x50, x51, cs52, h53) =>
 (if (decide (x51 < x50)) = true then (
 (sidx x49 x51 3).bind fun q54 =>
 (L.asInt .i64 (rd h53 q54 0)).bind fun x55 =>
 (L.asInt .i64 (rd h53 q54 1)).bind fun x56 =>
 (L.asBool (rd h53 q54 2)).bind fun x57 =>
 (hmap h53 x45).bind fun es58 =>
 (mlook (.agg [(.int .i64 x55), (.int .i64 x56)]) es58).bind fun q59 =>
 (L.asInt .i64 (some (Option.getD q59 (.int .i64 0)))).bind fun x60 =>
 (hentry h53 x45 (.agg [(.int .i64 x55), (.int .i64 x56)]) (.int .i64 0)).bind fun (v61, n62, h63) =>
 (L.asInt .i64 (some v61)).bind fun x64 =>
 (hestore h63 x45 n62 (.int .i64 (IntKind.i64.wrap (x60 + 1)))).bind fun h65 =>
 (hmap h65 x45).bind fun es66 =>
 (mlook (.agg [(.int .i64 x55), (.int .i64 x56)]) es66).bind fun q67 =>
 (L.asInt .i64 (some (Option.getD q67 (.int .i64 0)))).bind fun x68 =>
 (if (decide (x68 > 1)) = true then (
 none)
 else (
 L88_1 N n (x43, x44, x45, x46, cs47, x48, x49, x50, (IntKind.i64.wrap (x51 + 1)), cs52, h65))))
 else (
 some (x43, x44, x45, x46, cs47, x48, cs52, h53)))
def L88_0 (N : Nat) : Nat → V × Int × V × Bool × List V × Int × List V × H → Option (V × Int × Bool × List V × H)
 | 0, _ => none
 | n + 1, (x77, x78, x79, x80, cs81, x82, cs83, h84) =>
 (if (decide (x82 < 3)) = true then (
 (if 0 ≤ x82 then (if x82 < 3 then (
 ((cs81)[Int.toNat x82 * 1]?).bind fun x85 =>
 (if x80 = true then (
 some (true, h84))
 else (
 (slen x85).bind fun n88 =>
 some ((decide (n88 > 64)), h84))).bind fun (b86, h87) =>
 (slen x85).bind fun n89 =>
 (L88_1 N N (x77, x78, x79, b86, cs81, x82, x85, n89, 0, cs83, h87)).bind fun (x90, x91, x92, x93, cs94, x95, cs96, h97) =>
 L88_0 N n (x90, x91, x92, x93, cs94, (IntKind.i64.wrap (x95 + 1)), cs96, h97)) else none) else none))
 else (
 some (x77, x78, x80, cs83, h84)))
def L88_2 (N : Nat) : Nat → V × List V × Int × H → Option (V × H)
 | 0, _ => none
 | n + 1, (x119, cs120, x121, h122) =>
 (if (decide (x121 < 3)) = true then (
 (if 0 ≤ x121 then (if x121 < 3 then (
 ((cs120)[Int.toNat x121 * 1]?).bind fun x123 =>
 (F129 N (x123, h122)).bind fun (x124, h125) =>
 (nck x119).bind fun _ =>
 (aidx (padd x119 2) x121 3 1).bind fun q126 =>
 (wr h125 q126 [x124]).bind fun h127 =>
 L88_2 N n (x119, cs120, (IntKind.i64.wrap (x121 + 1)), h127)) else none) else none))
 else (
 some (x119, h122)))
def F88 (N : Nat) : V × Int × List V × H → Option (V × Int × H)
 | (a0, a1, a2, h) =>
 (if (a2).length = 3 then (
 (F49 N (a0, h)).bind fun (x1, _) =>
 (if (x1 != 0) = true then (
 none)
 else (
 (some (h ++ [O.map 0 [] []]) : Option H).bind fun h2 =>
 ((if 0 + 3 ≤ (a2).length then some (((a2).drop 0).take 3) else none) : Option (List V)).bind fun cs3 =>
 (L88_0 N N (a0, a1, (.map (h).length), false, cs3, 0, a2, h2)).bind fun (x98, x99, x100, cs101, h102) =>
 (if (decide (x99 < 0)) = true then (
 some (true, h102))
 else (
 (slen x98).bind fun n105 =>
 some ((decide (x99 ≥ n105)), h102))).bind fun (b103, h104) =>
 (if b103 = true then (
 none)
 else (
 (if x100 = true then (
 none)
 else (
 Option.bind (α := (V × H)) (locF true ks31 rs31 (F31 N) ((x98, h104) : V × H)) fun (x106, h107) =>
 (ck1 x106).bind fun _ =>
 (some (h107 ++ [O.cells 0 [x106, (.int .i64 x99), .nilp, .nilp, .nilp]]) : Option H).bind fun h108 =>
 ((if 0 + 3 ≤ (cs101).length then some (((cs101).drop 0).take 3) else none) : Option (List V)).bind fun cs109 =>
 (L88_2 N N ((.ptr (h107).length 0 0), cs109, 0, h108)).bind fun (x128, h129) =>
 some (x128, 0, h129)))))))) else none)
abbrev ks88 : List SK := [.one .ref, .one (.int .i64), .blk]
abbrev rs88 : List SK := [.one .ref, .one (.int .i64)]
def e88 (N : Nat) : Env := ⟨Tryz.prog, 84, inTab [5, 14], inTab [], natTab [(5, 5), (14, 14), (41, 14), (48, 14)], inTab [], calTab [(49, .ro (mkFun ks49 rs49 (F49 N))), (31, .gro (mkFun ks31 rs31 (locF true ks31 rs31 (F31 N)))), (129, .full (mkFun ks129 rs129 (F129 N)))], altTab [], loopTab [(7, ⟨⟨.normal, [0, 1, 5, 9, 10, 24, 25], [.one .ref, .one (.int .i64), .lp 5 0, .one .ref, .one .bool, .blk, .one (.int .i64)], [5], [.blk]⟩, [⟨(.exit 0), [0, 1, 5, 10], [.one .ref, .one (.int .i64), .lp 5 0, .one .bool], [5], [.blk]⟩], L88_0 N⟩), (11, ⟨⟨.normal, [0, 1, 5, 9, 10, 24, 25, 34, 35, 36], [.one .ref, .one (.int .i64), .lp 5 0, .one .ref, .one .bool, .blk, .one (.int .i64), .one .ref, .one (.int .i64), .one (.int .i64)], [5], [.blk]⟩, [⟨(.exit 2), [0, 1, 5, 9, 10, 24, 25], [.one .ref, .one (.int .i64), .lp 5 0, .one .ref, .one .bool, .blk, .one (.int .i64)], [5], [.blk]⟩], L88_1 N⟩), (24, ⟨⟨.normal, [15, 70, 71], [.one .ref, .blk, .one (.int .i64)], [], []⟩, [⟨(.exit 5), [15], [.one .ref], [], []⟩], L88_2 N⟩)], natTab [], inTab [3, 15, 19, 21]⟩
theorem l88_0 (N : Nat) : ∀ A, (e88 N).lp (lid (loopAt Tryz.f88 0)) = some A → LoopOk (e88 N) N (loopAt Tryz.f88 0) A :=
  loopOk_of (A := ⟨⟨.normal, [0, 1, 5, 9, 10, 24, 25], [.one .ref, .one (.int .i64), .lp 5 0, .one .ref, .one .bool, .blk, .one (.int .i64)], [5], [.blk]⟩, [⟨(.exit 0), [0, 1, 5, 10], [.one .ref, .one (.int .i64), .lp 5 0, .one .bool], [5], [.blk]⟩], L88_0 N⟩) (by kernel_rfl) (fun _ => rfl) (fun _ _ => by kernel_rfl)
theorem l88_1 (N : Nat) : ∀ A, (e88 N).lp (lid (loopAt Tryz.f88 1)) = some A → LoopOk (e88 N) N (loopAt Tryz.f88 1) A :=
  loopOk_of (A := ⟨⟨.normal, [0, 1, 5, 9, 10, 24, 25, 34, 35, 36], [.one .ref, .one (.int .i64), .lp 5 0, .one .ref, .one .bool, .blk, .one (.int .i64), .one .ref, .one (.int .i64), .one (.int .i64)], [5], [.blk]⟩, [⟨(.exit 2), [0, 1, 5, 9, 10, 24, 25], [.one .ref, .one (.int .i64), .lp 5 0, .one .ref, .one .bool, .blk, .one (.int .i64)], [5], [.blk]⟩], L88_1 N⟩) (by kernel_rfl) (fun _ => rfl) (fun _ _ => by kernel_rfl)
theorem l88_2 (N : Nat) : ∀ A, (e88 N).lp (lid (loopAt Tryz.f88 2)) = some A → LoopOk (e88 N) N (loopAt Tryz.f88 2) A :=
  loopOk_of (A := ⟨⟨.normal, [15, 70, 71], [.one .ref, .blk, .one (.int .i64)], [], []⟩, [⟨(.exit 5), [15], [.one .ref], [], []⟩], L88_2 N⟩) (by kernel_rfl) (fun _ => rfl) (fun _ _ => by kernel_rfl)
theorem fine88 (N : Nat) : Fine (e88 N) N 88 Tryz.f88 ks88 rs88 (F88 N) :=
  ⟨Tryz.func88, by kernel_rfl, by kernel_rfl, by kernel_rfl, loops_of ⟨l88_0 N, ⟨l88_1 N, ⟨l88_2 N, trivial⟩⟩⟩, by kernel_rfl, by kernel_rfl, fun _ => by kernel_rfl⟩
theorem good88 (N : Nat) : Go.L.Good (e88 N) := good_of ⟨gd49 N, ⟨gl31 N, ⟨gd129 N, trivial⟩⟩⟩
theorem gd88 (N : Nat) : CalOk Tryz.prog 88 (.full (mkFun ks88 rs88 (F88 N))) := mkFun_good (fine88 N) (good88 N)

/-! ### 89: steal.Prefix -/
def L89_0 (N : Nat) : Nat → V × Int × H → Option (H)
 | 0, _ => none
 | n + 1, (x11, x12, h13) =>
 (slen x11).bind fun n14 =>
 (if (decide (x12 < n14)) = true then (
 (sidx x11 x12 3).bind fun q15 =>
 (L.asBool (rd h13 (padd q15 2) 0)).bind fun x16 =>
 (if x16 = true then (
 (sidx x11 (IntKind.i64.wrap (x12 - 1)) 3).bind fun q19 =>
 (L.asBool (rd h13 (padd q19 2) 0)).bind fun x20 =>
 some ((!x20), h13))
 else (
 some (false, h13))).bind fun (b17, h18) =>
 (if b17 = true then (
 none)
 else (
 L89_0 N n (x11, (IntKind.i64.wrap (x12 + 1)), h18))))
 else (
 some h13))
def F89 (N : Nat) : V × H → Option (Bool × H)
 | (a0, h) =>
 (L89_0 N N (a0, 1, h)).bind fun h21 =>
 some (true, h21)
abbrev ks89 : List SK := [.one .ref]
abbrev rs89 : List SK := [.one .bool]
def e89 (N : Nat) : Env := ⟨Tryz.prog, 24, inTab [], inTab [], natTab [], inTab [], calTab [], altTab [], loopTab [(2, ⟨⟨.normal, [0, 3], [.one .ref, .one (.int .i64)], [], []⟩, [⟨(.exit 0), [], [], [], []⟩], L89_0 N⟩)], natTab [], inTab [5]⟩
theorem l89_0 (N : Nat) : ∀ A, (e89 N).lp (lid (loopAt Tryz.f89 0)) = some A → LoopOk (e89 N) N (loopAt Tryz.f89 0) A :=
  loopOk_of (A := ⟨⟨.normal, [0, 3], [.one .ref, .one (.int .i64)], [], []⟩, [⟨(.exit 0), [], [], [], []⟩], L89_0 N⟩) (by kernel_rfl) (fun _ => rfl) (fun _ _ => by kernel_rfl)
theorem fine89 (N : Nat) : Fine (e89 N) N 89 Tryz.f89 ks89 rs89 (F89 N) :=
  ⟨Tryz.func89, by kernel_rfl, by kernel_rfl, by kernel_rfl, loops_of ⟨l89_0 N, trivial⟩, by kernel_rfl, by kernel_rfl, fun _ => by kernel_rfl⟩
theorem good89 (N : Nat) : Go.L.Good (e89 N) := good_of trivial
theorem gd89 (N : Nat) : CalOk Tryz.prog 89 (.ro (mkFun ks89 rs89 (F89 N))) := mkFun_ro (fine89 N) (good89 N) (by kernel_rfl)

/-! ### 102: code.named -/
def F102 (N : Nat) : ByteArray × H → Option (Bool × H)
 | (a0, h) =>
 (F69 N (5, 0, (0, 0), a0, 0, 0, .nils, h)).bind fun (x1, h2) =>
 some ((x1 == 0), h2)
abbrev ks102 : List SK := [.one .str]
abbrev rs102 : List SK := [.one .bool]
def e102 (N : Nat) : Env := ⟨Tryz.prog, 7, inTab [], inTab [], natTab [], inTab [], calTab [(69, .full (mkFun ks69 rs69 (F69 N)))], altTab [], loopTab [], natTab [], inTab []⟩
theorem fine102 (N : Nat) : Fine (e102 N) N 102 Tryz.f102 ks102 rs102 (F102 N) :=
  ⟨Tryz.func102, by kernel_rfl, by kernel_rfl, by kernel_rfl, loops_of trivial, by kernel_rfl, by kernel_rfl, fun _ => by kernel_rfl⟩
theorem good102 (N : Nat) : Go.L.Good (e102 N) := good_of ⟨gd69 N, trivial⟩
theorem gd102 (N : Nat) : CalOk Tryz.prog 102 (.full (mkFun ks102 rs102 (F102 N))) := mkFun_good (fine102 N) (good102 N)

/-! ### 103: code.headed -/
def L103_0 (N : Nat) : Nat → Int × Int × ByteArray × Int × Int × V × H → Option (ByteArray × Int × Int × V × H)
 | 0, _ => none
 | n + 1, (x16, x17, x18, x19, x20, x21, h22) =>
 (if (decide (x17 < x16)) = true then (
 none)
 else (
 some (x18, x19, x20, x21, h22)))
def F103 (N : Nat) : ByteArray × V × Int × H → Option (Bool × H)
 | (a0_0, a0_1, a1, h) =>
 (sidx a0_1 a1 4).bind fun q1 =>
 (L.asStr (rd h q1 0)).bind fun x2 =>
 (L.asInt .i64 (rd h q1 1)).bind fun x3 =>
 (L.asInt .i64 (rd h q1 2)).bind fun x4 =>
 ((rd h q1 3)).bind fun x5 =>
 (slen a0_1).bind fun n6 =>
 (ssl 4 a0_1 0 a1).bind fun v7 =>
 (slen v7).bind fun n8 =>
 (L103_0 N N (n8, 0, x2, x3, x4, x5, h)).bind fun (x23, x24, x25, x26, h27) =>
 (F102 N (x23, h27)).bind fun (x28, h29) =>
 (if x28 = true then (
 some ((decide (x24 ≥ 0)), h29))
 else (
 some (false, h29))).bind fun (b30, h31) =>
 (if b30 = true then (
 some ((decide (x24 ≤ x25)), h31))
 else (
 some (false, h31))).bind fun (b32, h33) =>
 (if b32 = true then (
 some ((decide (x25 ≤ 32)), h33))
 else (
 some (false, h33))).bind fun (b34, h35) =>
 (if b34 = true then (
 (slen x26).bind fun n38 =>
 some ((decide (n38 ≥ 1)), h35))
 else (
 some (false, h35))).bind fun (b36, h37) =>
 (if b36 = true then (
 (slen x26).bind fun n41 =>
 some ((decide (n41 ≤ 1024)), h37))
 else (
 some (false, h37))).bind fun (b39, h40) =>
 some (b39, h40)
abbrev ks103 : List SK := [.agg [.str, .ref], .one (.int .i64)]
abbrev rs103 : List SK := [.one .bool]
def e103 (N : Nat) : Env := ⟨Tryz.prog, 60, inTab [2, 5, 7], inTab [], natTab [(2, 2), (5, 5), (7, 7), (8, 2), (13, 2), (22, 7), (24, 5), (28, 5), (32, 5), (37, 5), (39, 5), (44, 5), (49, 5), (55, 5)], inTab [], calTab [(102, .full (mkFun ks102 rs102 (F102 N)))], altTab [], loopTab [(3, ⟨⟨.normal, [5, 17, 18], [.lp 5 0, .one (.int .i64), .one (.int .i64)], [5], [.cells [.str, (.int .i64), (.int .i64), .ref]]⟩, [⟨(.exit 0), [5], [.lp 5 0], [5], [.cells [.str, (.int .i64), (.int .i64), .ref]]⟩], L103_0 N⟩)], natTab [], inTab [4, 5, 6, 7]⟩
theorem l103_0 (N : Nat) : ∀ A, (e103 N).lp (lid (loopAt Tryz.f103 0)) = some A → LoopOk (e103 N) N (loopAt Tryz.f103 0) A :=
  loopOk_of (A := ⟨⟨.normal, [5, 17, 18], [.lp 5 0, .one (.int .i64), .one (.int .i64)], [5], [.cells [.str, (.int .i64), (.int .i64), .ref]]⟩, [⟨(.exit 0), [5], [.lp 5 0], [5], [.cells [.str, (.int .i64), (.int .i64), .ref]]⟩], L103_0 N⟩) (by kernel_rfl) (fun _ => rfl) (fun _ _ => by kernel_rfl)
theorem fine103 (N : Nat) : Fine (e103 N) N 103 Tryz.f103 ks103 rs103 (F103 N) :=
  ⟨Tryz.func103, by kernel_rfl, by kernel_rfl, by kernel_rfl, loops_of ⟨l103_0 N, trivial⟩, by kernel_rfl, by kernel_rfl, fun _ => by kernel_rfl⟩
theorem good103 (N : Nat) : Go.L.Good (e103 N) := good_of ⟨gd102 N, trivial⟩
theorem gd103 (N : Nat) : CalOk Tryz.prog 103 (.full (mkFun ks103 rs103 (F103 N))) := mkFun_good (fine103 N) (good103 N)

/-! ### 168: code.is -/
def F168 (N : Nat) : Int × H → Option (Bool × H)
 | (a0, h) =>
 (if (decide (a0 ≥ 1)) = true then (
 some ((decide (a0 ≤ 46)), h))
 else (
 some (false, h))).bind fun (b1, h2) =>
 some (b1, h2)
abbrev ks168 : List SK := [.one (.int .i64)]
abbrev rs168 : List SK := [.one .bool]
def e168 (N : Nat) : Env := ⟨Tryz.prog, 9, inTab [], inTab [], natTab [], inTab [], calTab [], altTab [], loopTab [], natTab [], inTab []⟩
theorem fine168 (N : Nat) : Fine (e168 N) N 168 Tryz.f168 ks168 rs168 (F168 N) :=
  ⟨Tryz.func168, by kernel_rfl, by kernel_rfl, by kernel_rfl, loops_of trivial, by kernel_rfl, by kernel_rfl, fun _ => by kernel_rfl⟩
theorem good168 (N : Nat) : Go.L.Good (e168 N) := good_of trivial
theorem gd168 : CalOk Tryz.prog 168 (.pure (mkP ks168 rs168 (F168 100))) := mkP_good (fine168 100) (good168 100) (by kernel_rfl) (by kernel_rfl)

/-! ### 169: code.same -/
def F169 (N : Nat) : Int × Int × (Nat × Nat) × ByteArray × Int × Int × V × H → Option (Bool × H)
 | (a0_0, a0_1, a0_2, a0_3, a0_4, a0_5, a0_6, h) =>
 (if (a0_0 == 0) = true then (
 some ((a0_1 == 0), h))
 else (
 some (false, h))).bind fun (b1, h2) =>
 (if b1 = true then (
 some ((Op.floatEq .f64 a0_2.1 0 && Op.floatEq .f64 a0_2.2 0), h2))
 else (
 some (false, h2))).bind fun (b3, h4) =>
 (if b3 = true then (
 some (((a0_3).toList == ((ByteArray.mk #[])).toList), h4))
 else (
 some (false, h4))).bind fun (b5, h6) =>
 (if b5 = true then (
 some (((a0_4 == 0) && ((a0_5 == 0) && true)), h6))
 else (
 some (false, h6))).bind fun (b7, h8) =>
 (if b7 = true then (
 (slen a0_6).bind fun n11 =>
 some ((n11 == 0), h8))
 else (
 some (false, h8))).bind fun (b9, h10) =>
 some (b9, h10)
abbrev ks169 : List SK := [.agg [(.int .i64), (.int .i64), (.cplx .f64), .str, (.int .i64), (.int .i64), .ref]]
abbrev rs169 : List SK := [.one .bool]
def e169 (N : Nat) : Env := ⟨Tryz.prog, 33, inTab [1], inTab [], natTab [(1, 1), (3, 1), (7, 1), (12, 1), (17, 1), (22, 1), (28, 1)], inTab [], calTab [], altTab [], loopTab [], natTab [], inTab []⟩
theorem fine169 (N : Nat) : Fine (e169 N) N 169 Tryz.f169 ks169 rs169 (F169 N) :=
  ⟨Tryz.func169, by kernel_rfl, by kernel_rfl, by kernel_rfl, loops_of trivial, by kernel_rfl, by kernel_rfl, fun _ => by kernel_rfl⟩
theorem good169 (N : Nat) : Go.L.Good (e169 N) := good_of trivial
theorem gd169 (N : Nat) : CalOk Tryz.prog 169 (.ro (mkFun ks169 rs169 (F169 N))) := mkFun_ro (fine169 N) (good169 N) (by kernel_rfl)

/-! ### 136: code.may -/
def F136 (N : Nat) : ByteArray × V × ByteArray × Int × Int × V × Int × Int × Int × Int × Int × (Nat × Nat) × ByteArray × Int × Int × V × V × H → Option (Bool × H)
 | (a0_0, a0_1, a1_0, a1_1, a1_2, a1_3, a2_0, a2_1, a2_2, a2_3, a2_4, a2_5, a2_6, a2_7, a2_8, a2_9, a2_10, h) =>
 (F168 100 (a2_0, [])).bind fun (x1, _) =>
 (if (!x1) = true then (
 some (true, h))
 else (
 (if (a2_0 != 1) = true then (
 (F169 N (a2_3, a2_4, (a2_5.1, a2_5.2), a2_6, a2_7, a2_8, a2_9, h)).bind fun (x6, _) =>
 some ((!x6), h))
 else (
 some (false, h))).bind fun (b4, h5) =>
 some (b4, h5))).bind fun (b2, h3) =>
 (if b2 = true then (
 some (true, h3))
 else (
 (if (a2_0 != 27) = true then (
 some ((a2_0 != 33), h3))
 else (
 some (false, h3))).bind fun (b9, h10) =>
 (if b9 = true then (
 (slen a2_10).bind fun n13 =>
 some ((decide (n13 > 0)), h10))
 else (
 some (false, h10))).bind fun (b11, h12) =>
 some (b11, h12))).bind fun (b7, h8) =>
 (if b7 = true then (
 some (true, h8))
 else (
 (if (a2_0 != 34) = true then (
 some ((a2_0 != 33), h8))
 else (
 some (false, h8))).bind fun (b16, h17) =>
 (if b16 = true then (
 some ((a2_2 != 0), h17))
 else (
 some (false, h17))).bind fun (b18, h19) =>
 some (b18, h19))).bind fun (b14, h15) =>
 (if b14 = true then (
 none)
 else (
 (if (a2_0 == 1) = true then (
 none)
 else (
 (if (a2_0 == 3) = true then (
 none)
 else (
 ((if (a2_0 == 4) = true then (
 some (a2_0, (a2_0 == 4), h15))
 else (
 some (a2_0, (a2_0 == 5), h15))) : Option (Int × Bool × H)).bind fun (x20, x21, h22) =>
 (if x21 = true then (
 none)
 else (
 (if (x20 == 17) = true then (
 none)
 else (
 ((if (x20 == 18) = true then (
 some (x20, (x20 == 18), h22))
 else (
 some (x20, (x20 == 19), h22))) : Option (Int × Bool × H)).bind fun (x23, x24, h25) =>
 (if x24 = true then (
 none)
 else (
 (if (x23 == 25) = true then (
 (if (x23 == 25) = true then (
 some (true, h25))
 else (
 none)))
 else (
 none))))))))))))))
abbrev ks136 : List SK := [.agg [.str, .ref], .agg [.str, (.int .i64), (.int .i64), .ref], .agg [(.int .i64), (.int .i64), (.int .i64), (.int .i64), (.int .i64), (.cplx .f64), .str, (.int .i64), (.int .i64), .ref, .ref]]
abbrev rs136 : List SK := [.one .bool]
def e136 (N : Nat) : Env := ⟨Tryz.prog, 156, inTab [3, 4, 5], inTab [], natTab [(3, 3), (4, 4), (5, 5), (7, 5), (12, 5), (16, 5), (23, 5), (27, 5), (32, 5), (39, 5), (43, 5), (48, 5), (53, 5), (57, 5), (61, 5), (68, 5), (74, 5), (76, 4), (81, 5), (85, 5), (92, 5), (100, 5), (102, 3), (108, 5), (110, 3), (115, 5), (121, 5), (123, 4), (128, 5), (132, 5), (137, 5), (141, 5), (147, 5), (149, 4), (153, 5)], inTab [], calTab [(168, .pure (mkP ks168 rs168 (F168 100))), (169, .ro (mkFun ks169 rs169 (F169 N)))], altTab [(2415919175, [⟨.normal, [54, 71], [.one (.int .i64), .one .bool], [], []⟩]), (3758096473, [⟨.normal, [54, 89], [.one (.int .i64), .one .bool], [], []⟩])], loopTab [], natTab [], inTab [2, 5, 7, 10, 12, 15, 17, 19, 20, 21, 22, 23, 24, 25, 26, 27]⟩
theorem fine136 (N : Nat) : Fine (e136 N) N 136 Tryz.f136 ks136 rs136 (F136 N) :=
  ⟨Tryz.func136, by kernel_rfl, by kernel_rfl, by kernel_rfl, loops_of trivial, by kernel_rfl, by kernel_rfl, fun _ => by kernel_rfl⟩
theorem good136 (N : Nat) : Go.L.Good (e136 N) := good_of ⟨gd168, ⟨gd169 N, trivial⟩⟩
theorem gd136 (N : Nat) : CalOk Tryz.prog 136 (.ro (mkFun ks136 rs136 (F136 N))) := mkFun_ro (fine136 N) (good136 N) (by kernel_rfl)

/-! ### 137: code.goes -/
def L137_0 (N : Nat) : Nat → V × Int × Int × H → Option (V × H)
 | 0, _ => none
 | n + 1, (x8, x9, x10, h11) =>
 (if (decide (x10 < x9)) = true then (
 none)
 else (
 some (x8, h11)))
def F137 (N : Nat) : Int × Int × Int × Int × Int × (Nat × Nat) × ByteArray × Int × Int × V × V × H → Option (V × H)
 | (a0_0, a0_1, a0_2, a0_3, a0_4, a0_5, a0_6, a0_7, a0_8, a0_9, a0_10, h) =>
 (if (a0_0 == 25) = true then (
 (if (a0_0 == 25) = true then (
 (happ h .nils 1 1 [(.int .i64 a0_1)]).bind fun (v1, h2) =>
 (slen a0_10).bind fun n3 =>
 (L137_0 N N (v1, n3, 0, h2)).bind fun (x12, h13) =>
 some (x12, h13))
 else (
 none)))
 else (
 none))
abbrev ks137 : List SK := [.agg [(.int .i64), (.int .i64), (.int .i64), (.int .i64), (.int .i64), (.cplx .f64), .str, (.int .i64), (.int .i64), .ref, .ref]]
abbrev rs137 : List SK := [.one .ref]
def e137 (N : Nat) : Env := ⟨Tryz.prog, 41, inTab [1, 5, 15, 25, 37], inTab [], natTab [(1, 1), (5, 5), (6, 1), (13, 1), (19, 1), (23, 1), (27, 1), (35, 5)], inTab [], calTab [], altTab [], loopTab [(11, ⟨⟨.normal, [3, 29, 30], [.one .ref, .one (.int .i64), .one (.int .i64)], [], []⟩, [⟨(.exit 1), [3], [.one .ref], [], []⟩], L137_0 N⟩)], natTab [], inTab [4, 5, 7, 8, 9, 12, 13, 14]⟩
theorem l137_0 (N : Nat) : ∀ A, (e137 N).lp (lid (loopAt Tryz.f137 0)) = some A → LoopOk (e137 N) N (loopAt Tryz.f137 0) A :=
  loopOk_of (A := ⟨⟨.normal, [3, 29, 30], [.one .ref, .one (.int .i64), .one (.int .i64)], [], []⟩, [⟨(.exit 1), [3], [.one .ref], [], []⟩], L137_0 N⟩) (by kernel_rfl) (fun _ => rfl) (fun _ _ => by kernel_rfl)
theorem fine137 (N : Nat) : Fine (e137 N) N 137 Tryz.f137 ks137 rs137 (F137 N) :=
  ⟨Tryz.func137, by kernel_rfl, by kernel_rfl, by kernel_rfl, loops_of ⟨l137_0 N, trivial⟩, by kernel_rfl, by kernel_rfl, fun _ => by kernel_rfl⟩
theorem good137 (N : Nat) : Go.L.Good (e137 N) := good_of trivial
theorem gd137 (N : Nat) : CalOk Tryz.prog 137 (.full (mkFun ks137 rs137 (F137 N))) := mkFun_good (fine137 N) (good137 N)

/-! ### 138: code.within -/
def F138 (N : Nat) : Int × Int × H → Option (Bool × H)
 | (a0, a1, h) =>
 (if (decide (a0 ≥ 0)) = true then (
 some ((decide (a0 < a1)), h))
 else (
 some (false, h))).bind fun (b1, h2) =>
 some (b1, h2)
abbrev ks138 : List SK := [.one (.int .i64), .one (.int .i64)]
abbrev rs138 : List SK := [.one .bool]
def e138 (N : Nat) : Env := ⟨Tryz.prog, 12, inTab [], inTab [], natTab [], inTab [], calTab [], altTab [], loopTab [], natTab [], inTab []⟩
theorem fine138 (N : Nat) : Fine (e138 N) N 138 Tryz.f138 ks138 rs138 (F138 N) :=
  ⟨Tryz.func138, by kernel_rfl, by kernel_rfl, by kernel_rfl, loops_of trivial, by kernel_rfl, by kernel_rfl, fun _ => by kernel_rfl⟩
theorem good138 (N : Nat) : Go.L.Good (e138 N) := good_of trivial
theorem gd138 : CalOk Tryz.prog 138 (.pure (mkP ks138 rs138 (F138 100))) := mkP_good (fine138 100) (good138 100) (by kernel_rfl) (by kernel_rfl)

/-! ### 104: code.coded -/
def L104_1 (N : Nat) : Nat → V × Int × Int × V × Int × Int × ByteArray × V × ByteArray × Int × Int × V × H → Option (V × Int × Int × ByteArray × V × ByteArray × Int × Int × V × H)
 | 0, _ => none
 | n + 1, (x45, x46, x47, x48, x49, x50, x51, x52, x53, x54, x55, x56, h57) =>
 (if (decide (x50 < x49)) = true then (
 (sidx x48 x50 1).bind fun q58 =>
 (L.asInt .i64 (rd h57 q58 0)).bind fun x59 =>
 (slen x56).bind fun n60 =>
 (F138 100 (x59, n60, [])).bind fun (x61, _) =>
 (if (!x61) = true then (
 none)
 else (
 L104_1 N n (x45, x46, x47, x48, x49, (IntKind.i64.wrap (x50 + 1)), x51, x52, x53, x54, x55, x56, h57))))
 else (
 some (x45, x46, x47, x51, x52, x53, x54, x55, x56, h57)))
def L104_0 (N : Nat) : Nat → V × Int × Int × ByteArray × V × ByteArray × Int × Int × V × H → Option (H)
 | 0, _ => none
 | n + 1, (x72, x73, x74, x75, x76, x77, x78, x79, x80, h81) =>
 (if (decide (x74 < x73)) = true then (
 (sidx x72 x74 11).bind fun q82 =>
 (L.asInt .i64 (rd h81 q82 0)).bind fun x83 =>
 (L.asInt .i64 (rd h81 q82 1)).bind fun x84 =>
 (L.asInt .i64 (rd h81 q82 2)).bind fun x85 =>
 (L.asInt .i64 (rd h81 q82 3)).bind fun x86 =>
 (L.asInt .i64 (rd h81 q82 4)).bind fun x87 =>
 (L.asCplx .f64 (rd h81 q82 5)).bind fun x88 =>
 (L.asStr (rd h81 q82 6)).bind fun x89 =>
 (L.asInt .i64 (rd h81 q82 7)).bind fun x90 =>
 (L.asInt .i64 (rd h81 q82 8)).bind fun x91 =>
 ((rd h81 q82 9)).bind fun x92 =>
 ((rd h81 q82 10)).bind fun x93 =>
 (F136 N (x75, x76, x77, x78, x79, x80, x83, x84, x85, x86, x87, (x88.1, x88.2), x89, x90, x91, x92, x93, h81)).bind fun (x94, _) =>
 (if (!x94) = true then (
 none)
 else (
 (F137 N (x83, x84, x85, x86, x87, (x88.1, x88.2), x89, x90, x91, x92, x93, h81)).bind fun (x95, h96) =>
 (slen x95).bind fun n97 =>
 (L104_1 N N (x72, x73, x74, x95, n97, 0, x75, x76, x77, x78, x79, x80, h96)).bind fun (x98, x99, x100, x101, x102, x103, x104, x105, x106, h107) =>
 L104_0 N n (x98, x99, (IntKind.i64.wrap (x100 + 1)), x101, x102, x103, x104, x105, x106, h107))))
 else (
 some h81))
def F104 (N : Nat) : ByteArray × V × ByteArray × Int × Int × V × H → Option (Int × Int × H)
 | (a0_0, a0_1, a1_0, a1_1, a1_2, a1_3, h) =>
 (slen a1_3).bind fun n1 =>
 (L104_0 N N (a1_3, n1, 0, a0_0, a0_1, a1_0, a1_1, a1_2, a1_3, h)).bind fun h108 =>
 some (0, 0, h108)
abbrev ks104 : List SK := [.agg [.str, .ref], .agg [.str, (.int .i64), (.int .i64), .ref]]
abbrev rs104 : List SK := [.one (.int .i64), .one (.int .i64)]
def e104 (N : Nat) : Env := ⟨Tryz.prog, 40, inTab [2, 3, 7], inTab [], natTab [(2, 2), (3, 3), (7, 7), (10, 3), (32, 3)], inTab [], calTab [(136, .ro (mkFun ks136 rs136 (F136 N))), (137, .full (mkFun ks137 rs137 (F137 N))), (138, .pure (mkP ks138 rs138 (F138 100)))], altTab [], loopTab [(2, ⟨⟨.normal, [2, 3, 11, 12, 13], [.lp 2 0, .lp 3 0, .one .ref, .one (.int .i64), .one (.int .i64)], [2, 3], [.cells [.str, .ref], .cells [.str, (.int .i64), (.int .i64), .ref]]⟩, [⟨(.exit 0), [], [], [], []⟩], L104_0 N⟩), (7, ⟨⟨.normal, [2, 3, 11, 12, 13, 25, 26, 27], [.lp 2 0, .lp 3 0, .one .ref, .one (.int .i64), .one (.int .i64), .one .ref, .one (.int .i64), .one (.int .i64)], [2, 3], [.cells [.str, .ref], .cells [.str, (.int .i64), (.int .i64), .ref]]⟩, [⟨(.exit 2), [2, 3, 11, 12, 13], [.lp 2 0, .lp 3 0, .one .ref, .one (.int .i64), .one (.int .i64)], [2, 3], [.cells [.str, .ref], .cells [.str, (.int .i64), (.int .i64), .ref]]⟩], L104_1 N⟩)], natTab [], inTab [5, 10]⟩
theorem l104_0 (N : Nat) : ∀ A, (e104 N).lp (lid (loopAt Tryz.f104 0)) = some A → LoopOk (e104 N) N (loopAt Tryz.f104 0) A :=
  loopOk_of (A := ⟨⟨.normal, [2, 3, 11, 12, 13], [.lp 2 0, .lp 3 0, .one .ref, .one (.int .i64), .one (.int .i64)], [2, 3], [.cells [.str, .ref], .cells [.str, (.int .i64), (.int .i64), .ref]]⟩, [⟨(.exit 0), [], [], [], []⟩], L104_0 N⟩) (by kernel_rfl) (fun _ => rfl) (fun _ _ => by kernel_rfl)
theorem l104_1 (N : Nat) : ∀ A, (e104 N).lp (lid (loopAt Tryz.f104 1)) = some A → LoopOk (e104 N) N (loopAt Tryz.f104 1) A :=
  loopOk_of (A := ⟨⟨.normal, [2, 3, 11, 12, 13, 25, 26, 27], [.lp 2 0, .lp 3 0, .one .ref, .one (.int .i64), .one (.int .i64), .one .ref, .one (.int .i64), .one (.int .i64)], [2, 3], [.cells [.str, .ref], .cells [.str, (.int .i64), (.int .i64), .ref]]⟩, [⟨(.exit 2), [2, 3, 11, 12, 13], [.lp 2 0, .lp 3 0, .one .ref, .one (.int .i64), .one (.int .i64)], [2, 3], [.cells [.str, .ref], .cells [.str, (.int .i64), (.int .i64), .ref]]⟩], L104_1 N⟩) (by kernel_rfl) (fun _ => rfl) (fun _ _ => by kernel_rfl)
theorem fine104 (N : Nat) : Fine (e104 N) N 104 Tryz.f104 ks104 rs104 (F104 N) :=
  ⟨Tryz.func104, by kernel_rfl, by kernel_rfl, by kernel_rfl, loops_of ⟨l104_0 N, ⟨l104_1 N, trivial⟩⟩, by kernel_rfl, by kernel_rfl, fun _ => by kernel_rfl⟩
theorem good104 (N : Nat) : Go.L.Good (e104 N) := good_of ⟨gd136 N, ⟨gd137 N, ⟨gd138, trivial⟩⟩⟩
theorem gd104 (N : Nat) : CalOk Tryz.prog 104 (.full (mkFun ks104 rs104 (F104 N))) := mkFun_good (fine104 N) (good104 N)

/-! ### 139: code.Effect -/
def F139 (N : Nat) : ByteArray × V × Int × Int × Int × Int × Int × (Nat × Nat) × ByteArray × Int × Int × V × V × H → Option (Int × Int × Int × H)
 | (a0_0, a0_1, a1_0, a1_1, a1_2, a1_3, a1_4, a1_5, a1_6, a1_7, a1_8, a1_9, a1_10, h) =>
 (F168 100 (a1_0, [])).bind fun (x1, _) =>
 (if (!x1) = true then (
 none)
 else (
 ((if (a1_0 == 3) = true then (
 some (a1_0, (a1_0 == 3), h))
 else (
 (if (a1_0 == 18) = true then (
 some (a1_0, (a1_0 == 18), h))
 else (
 some (a1_0, (a1_0 == 19), h))))) : Option (Int × Bool × H)).bind fun (x2, x3, h4) =>
 (if x3 = true then (
 none)
 else (
 ((if (x2 == 28) = true then (
 some (x2, (x2 == 28), h4))
 else (
 some (x2, (x2 == 34), h4))) : Option (Int × Bool × H)).bind fun (x5, x6, h7) =>
 (if x6 = true then (
 none)
 else (
 ((if (x5 == 1) = true then (
 some (x5, (x5 == 1), h7))
 else (
 (if (x5 == 4) = true then (
 some (x5, (x5 == 4), h7))
 else (
 (if (x5 == 30) = true then (
 some (x5, (x5 == 30), h7))
 else (
 some (x5, (x5 == 31), h7))))))) : Option (Int × Bool × H)).bind fun (x8, x9, h10) =>
 (if x9 = true then (
 none)
 else (
 (if (x8 == 25) = true then (
 (if (x8 == 25) = true then (
 some (0, 0, 0, h10))
 else (
 none)))
 else (
 none))))))))))
abbrev ks139 : List SK := [.agg [.str, .ref], .agg [(.int .i64), (.int .i64), (.int .i64), (.int .i64), (.int .i64), (.cplx .f64), .str, (.int .i64), (.int .i64), .ref, .ref]]
abbrev rs139 : List SK := [.one (.int .i64), .one (.int .i64), .one (.int .i64)]
def e139 (N : Nat) : Env := ⟨Tryz.prog, 98, inTab [2, 3], inTab [], natTab [(2, 2), (3, 3), (7, 3), (11, 3), (17, 3), (21, 3), (25, 3), (28, 3), (31, 3), (34, 3), (39, 3), (43, 3), (45, 2), (51, 2), (53, 3), (60, 2), (62, 3)], inTab [], calTab [(168, .pure (mkP ks168 rs168 (F168 100)))], altTab [(1342177293, [⟨.normal, [12, 13], [.one (.int .i64), .one .bool], [], []⟩]), (3489660964, [⟨.normal, [12, 36], [.one (.int .i64), .one .bool], [], []⟩]), (4831838275, [⟨.normal, [12, 67], [.one (.int .i64), .one .bool], [], []⟩])], loopTab [], natTab [], inTab [2, 7, 8, 9, 10, 11, 14, 15, 16, 21, 23, 24, 26, 27, 28, 29, 30, 31, 32, 33, 34, 35, 36, 37, 38, 39, 40, 41, 42, 43, 44, 45, 46, 47, 48]⟩
theorem fine139 (N : Nat) : Fine (e139 N) N 139 Tryz.f139 ks139 rs139 (F139 N) :=
  ⟨Tryz.func139, by kernel_rfl, by kernel_rfl, by kernel_rfl, loops_of trivial, by kernel_rfl, by kernel_rfl, fun _ => by kernel_rfl⟩
theorem good139 (N : Nat) : Go.L.Good (e139 N) := good_of ⟨gd168, trivial⟩
theorem gd139 (N : Nat) : CalOk Tryz.prog 139 (.ro (mkFun ks139 rs139 (F139 N))) := mkFun_ro (fine139 N) (good139 N) (by kernel_rfl)

/-! ### 140: code.leads -/
def F140 (N : Nat) : Int × Int × Int × Int × Int × (Nat × Nat) × ByteArray × Int × Int × V × V × Int × H → Option (V × H)
 | (a0_0, a0_1, a0_2, a0_3, a0_4, a0_5, a0_6, a0_7, a0_8, a0_9, a0_10, a1, h) =>
 (if (a0_0 == 25) = true then (
 (if (a0_0 == 25) = true then (
 (F137 N (a0_0, a0_1, a0_2, a0_3, a0_4, (a0_5.1, a0_5.2), a0_6, a0_7, a0_8, a0_9, a0_10, h)).bind fun (x1, h2) =>
 (scells h2 x1 1).bind fun cs5 =>
 (happ h2 .nils 1 (snlen x1) cs5).bind fun (v3, h4) =>
 some (v3, h4))
 else (
 none)))
 else (
 none))
abbrev ks140 : List SK := [.agg [(.int .i64), (.int .i64), (.int .i64), (.int .i64), (.int .i64), (.cplx .f64), .str, (.int .i64), (.int .i64), .ref, .ref], .one (.int .i64)]
abbrev rs140 : List SK := [.one .ref]
def e140 (N : Nat) : Env := ⟨Tryz.prog, 23, inTab [2, 11], inTab [], natTab [(2, 2), (6, 2)], inTab [], calTab [(137, .full (mkFun ks137 rs137 (F137 N)))], altTab [], loopTab [], natTab [], inTab [3, 5, 6, 7, 8]⟩
theorem fine140 (N : Nat) : Fine (e140 N) N 140 Tryz.f140 ks140 rs140 (F140 N) :=
  ⟨Tryz.func140, by kernel_rfl, by kernel_rfl, by kernel_rfl, loops_of trivial, by kernel_rfl, by kernel_rfl, fun _ => by kernel_rfl⟩
theorem good140 (N : Nat) : Go.L.Good (e140 N) := good_of ⟨gd137 N, trivial⟩
theorem gd140 (N : Nat) : CalOk Tryz.prog 140 (.full (mkFun ks140 rs140 (F140 N))) := mkFun_good (fine140 N) (good140 N)

/-! ### 105: code.heights -/
def L105_0 (N : Nat) : Nat → V × V × Int × Int × ByteArray × V × ByteArray × Int × Int × V × H → Option (V × V × ByteArray × V × ByteArray × Int × Int × V × H)
 | 0, _ => none
 | n + 1, (x19, x20, x21, x22, x23, x24, x25, x26, x27, x28, h29) =>
 (if (decide (x22 < x21)) = true then (
 (sidx x19 x22 1).bind fun q30 =>
 (wr h29 q30 [(.int .i64 (-1))]).bind fun h31 =>
 L105_0 N n (x19, x20, x21, (IntKind.i64.wrap (x22 + 1)), x23, x24, x25, x26, x27, x28, h31))
 else (
 some (x19, x20, x23, x24, x25, x26, x27, x28, h29)))
def L105_1 (N : Nat) : Nat → V × V × Int × ByteArray × V × ByteArray × Int × Int × V × H → Option (V × V × Int × ByteArray × V × ByteArray × Int × Int × V × H)
 | 0, _ => none
 | n + 1, (x62, x63, x64, x65, x66, x67, x68, x69, x70, h71) =>
 (slen x62).bind fun n72 =>
 (if (decide (x64 < n72)) = true then (
 (sidx x62 x64 1).bind fun q75 =>
 (L.asInt .i64 (rd h71 q75 0)).bind fun x76 =>
 (if (decide (x76 < 0)) = true then (
 some (true, h71))
 else (
 (sidx x63 x64 1).bind fun q79 =>
 (L.asBool (rd h71 q79 0)).bind fun x80 =>
 some (x80, h71))).bind fun (b77, h78) =>
 some (b77, h78))
 else (
 some (false, h71))).bind fun (b73, h74) =>
 (if b73 = true then (
 L105_1 N n (x62, x63, (IntKind.i64.wrap (x64 + 1)), x65, x66, x67, x68, x69, x70, h74))
 else (
 some (x62, x63, x64, x65, x66, x67, x68, x69, x70, h74)))
def L105_2 (N : Nat) : Nat → V × V × Int × Int × V × Int × Int × ByteArray × V × ByteArray × Int × Int × V × H → Option (V × V × Int × ByteArray × V × ByteArray × Int × Int × V × H)
 | 0, _ => none
 | n + 1, (x151, x152, x153, x154, x155, x156, x157, x158, x159, x160, x161, x162, x163, h164) =>
 (if (decide (x157 < x156)) = true then (
 (sidx x155 x157 1).bind fun q165 =>
 (L.asInt .i64 (rd h164 q165 0)).bind fun x166 =>
 (slen x151).bind fun n167 =>
 (if (x166 == n167) = true then (
 none)
 else (
 (sidx x151 x166 1).bind fun q168 =>
 (L.asInt .i64 (rd h164 q168 0)).bind fun x169 =>
 (if (decide (x169 < 0)) = true then (
 none)
 else (
 (sidx x151 x166 1).bind fun q170 =>
 (L.asInt .i64 (rd h164 q170 0)).bind fun x171 =>
 (if (x171 != x153) = true then (
 none)
 else (
 L105_2 N n (x151, x152, x153, x154, x155, x156, (IntKind.i64.wrap (x157 + 1)), x158, x159, x160, x161, x162, x163, h164))))))))
 else (
 some (x151, x152, x154, x158, x159, x160, x161, x162, x163, h164)))
def L105_3 (N : Nat) : Nat → V × V × Int × ByteArray × V × ByteArray × Int × Int × V × H → Option (V × Int × Int × H)
 | 0, _ => none
 | n + 1, (x251, x252, x253, x254, x255, x256, x257, x258, x259, h260) =>
 (L105_1 N N (x251, x252, x253, x254, x255, x256, x257, x258, x259, h260)).bind fun (x261, x262, x263, x264, x265, x266, x267, x268, x269, h270) =>
 (slen x261).bind fun n271 =>
 (if (x263 == n271) = true then (
 some (x261, 0, 0, h270))
 else (
 (sidx x262 x263 1).bind fun q272 =>
 (wr h270 q272 [(.bool true)]).bind fun h273 =>
 (sidx x269 x263 11).bind fun q274 =>
 (L.asInt .i64 (rd h273 q274 0)).bind fun x275 =>
 (L.asInt .i64 (rd h273 q274 1)).bind fun x276 =>
 (L.asInt .i64 (rd h273 q274 2)).bind fun x277 =>
 (L.asInt .i64 (rd h273 q274 3)).bind fun x278 =>
 (L.asInt .i64 (rd h273 q274 4)).bind fun x279 =>
 (L.asCplx .f64 (rd h273 q274 5)).bind fun x280 =>
 (L.asStr (rd h273 q274 6)).bind fun x281 =>
 (L.asInt .i64 (rd h273 q274 7)).bind fun x282 =>
 (L.asInt .i64 (rd h273 q274 8)).bind fun x283 =>
 ((rd h273 q274 9)).bind fun x284 =>
 ((rd h273 q274 10)).bind fun x285 =>
 (F139 N (x264, x265, x275, x276, x277, x278, x279, (x280.1, x280.2), x281, x282, x283, x284, x285, h273)).bind fun (x286, x287, x288, _) =>
 (sidx x261 x263 1).bind fun q289 =>
 (L.asInt .i64 (rd h273 q289 0)).bind fun x290 =>
 (sidx x261 x263 1).bind fun q291 =>
 (L.asInt .i64 (rd h273 q291 0)).bind fun x292 =>
 (if (decide (x286 > x292)) = true then (
 some (true, h273))
 else (
 some ((decide ((IntKind.i64.wrap ((IntKind.i64.wrap (x290 - x286)) + x287)) > 256)), h273))).bind fun (b293, h294) =>
 (if b293 = true then (
 none)
 else (
 (sidx x269 x263 11).bind fun q295 =>
 (L.asInt .i64 (rd h294 q295 0)).bind fun x296 =>
 (L.asInt .i64 (rd h294 q295 1)).bind fun x297 =>
 (L.asInt .i64 (rd h294 q295 2)).bind fun x298 =>
 (L.asInt .i64 (rd h294 q295 3)).bind fun x299 =>
 (L.asInt .i64 (rd h294 q295 4)).bind fun x300 =>
 (L.asCplx .f64 (rd h294 q295 5)).bind fun x301 =>
 (L.asStr (rd h294 q295 6)).bind fun x302 =>
 (L.asInt .i64 (rd h294 q295 7)).bind fun x303 =>
 (L.asInt .i64 (rd h294 q295 8)).bind fun x304 =>
 ((rd h294 q295 9)).bind fun x305 =>
 ((rd h294 q295 10)).bind fun x306 =>
 (F140 N (x296, x297, x298, x299, x300, (x301.1, x301.2), x302, x303, x304, x305, x306, x263, h294)).bind fun (x307, h308) =>
 (slen x307).bind fun n309 =>
 (L105_2 N N (x261, x262, (IntKind.i64.wrap ((IntKind.i64.wrap (x290 - x286)) + x287)), x263, x307, n309, 0, x264, x265, x266, x267, x268, x269, h308)).bind fun (x310, x311, x312, x313, x314, x315, x316, x317, x318, h319) =>
 L105_3 N n (x310, x311, x312, x313, x314, x315, x316, x317, x318, h319)))))
def F105 (N : Nat) : ByteArray × V × ByteArray × Int × Int × V × H → Option (V × Int × Int × H)
 | (a0_0, a0_1, a1_0, a1_1, a1_2, a1_3, h) =>
 (slen a1_3).bind fun n1 =>
 (if 0 ≤ n1 then (if n1 ≤ n1 then (if n1 * ((1 : Nat) : Int) ≤ ((mostCells : Nat) : Int) then (
 (some (h ++ [O.cells 0 (repeatC (Int.toNat n1) [(.int .i64 0)])]) : Option H).bind fun h2 =>
 (slen a1_3).bind fun n3 =>
 (if 0 ≤ n3 then (if n3 ≤ n3 then (if n3 * ((1 : Nat) : Int) ≤ ((mostCells : Nat) : Int) then (
 (some (h2 ++ [O.cells 0 (repeatC (Int.toNat n3) [(.bool false)])]) : Option H).bind fun h4 =>
 (slen (.sl (h).length 0 0 (Int.toNat n1) 1 (some (Int.toNat n1)))).bind fun n5 =>
 (L105_0 N N ((.sl (h).length 0 0 (Int.toNat n1) 1 (some (Int.toNat n1))), (.sl (h2).length 0 0 (Int.toNat n3) 1 (some (Int.toNat n3))), n5, 0, a0_0, a0_1, a1_0, a1_1, a1_2, a1_3, h4)).bind fun (x32, x33, x34, x35, x36, x37, x38, x39, h40) =>
 (sidx x32 0 1).bind fun q41 =>
 (wr h40 q41 [(.int .i64 0)]).bind fun h42 =>
 (L105_1 N N (x32, x33, 0, x34, x35, x36, x37, x38, x39, h42)).bind fun (x81, x82, x83, x84, x85, x86, x87, x88, x89, h90) =>
 (slen x81).bind fun n91 =>
 (if (x83 == n91) = true then (
 some (x81, 0, 0, h90))
 else (
 (sidx x82 x83 1).bind fun q92 =>
 (wr h90 q92 [(.bool true)]).bind fun h93 =>
 (sidx x89 x83 11).bind fun q94 =>
 (L.asInt .i64 (rd h93 q94 0)).bind fun x95 =>
 (L.asInt .i64 (rd h93 q94 1)).bind fun x96 =>
 (L.asInt .i64 (rd h93 q94 2)).bind fun x97 =>
 (L.asInt .i64 (rd h93 q94 3)).bind fun x98 =>
 (L.asInt .i64 (rd h93 q94 4)).bind fun x99 =>
 (L.asCplx .f64 (rd h93 q94 5)).bind fun x100 =>
 (L.asStr (rd h93 q94 6)).bind fun x101 =>
 (L.asInt .i64 (rd h93 q94 7)).bind fun x102 =>
 (L.asInt .i64 (rd h93 q94 8)).bind fun x103 =>
 ((rd h93 q94 9)).bind fun x104 =>
 ((rd h93 q94 10)).bind fun x105 =>
 (F139 N (x84, x85, x95, x96, x97, x98, x99, (x100.1, x100.2), x101, x102, x103, x104, x105, h93)).bind fun (x106, x107, x108, _) =>
 (sidx x81 x83 1).bind fun q109 =>
 (L.asInt .i64 (rd h93 q109 0)).bind fun x110 =>
 (sidx x81 x83 1).bind fun q111 =>
 (L.asInt .i64 (rd h93 q111 0)).bind fun x112 =>
 (if (decide (x106 > x112)) = true then (
 some (true, h93))
 else (
 some ((decide ((IntKind.i64.wrap ((IntKind.i64.wrap (x110 - x106)) + x107)) > 256)), h93))).bind fun (b113, h114) =>
 (if b113 = true then (
 none)
 else (
 (sidx x89 x83 11).bind fun q115 =>
 (L.asInt .i64 (rd h114 q115 0)).bind fun x116 =>
 (L.asInt .i64 (rd h114 q115 1)).bind fun x117 =>
 (L.asInt .i64 (rd h114 q115 2)).bind fun x118 =>
 (L.asInt .i64 (rd h114 q115 3)).bind fun x119 =>
 (L.asInt .i64 (rd h114 q115 4)).bind fun x120 =>
 (L.asCplx .f64 (rd h114 q115 5)).bind fun x121 =>
 (L.asStr (rd h114 q115 6)).bind fun x122 =>
 (L.asInt .i64 (rd h114 q115 7)).bind fun x123 =>
 (L.asInt .i64 (rd h114 q115 8)).bind fun x124 =>
 ((rd h114 q115 9)).bind fun x125 =>
 ((rd h114 q115 10)).bind fun x126 =>
 (F140 N (x116, x117, x118, x119, x120, (x121.1, x121.2), x122, x123, x124, x125, x126, x83, h114)).bind fun (x127, h128) =>
 (slen x127).bind fun n129 =>
 (L105_2 N N (x81, x82, (IntKind.i64.wrap ((IntKind.i64.wrap (x110 - x106)) + x107)), x83, x127, n129, 0, x84, x85, x86, x87, x88, x89, h128)).bind fun (x172, x173, x174, x175, x176, x177, x178, x179, x180, h181) =>
 (L105_3 N N (x172, x173, x174, x175, x176, x177, x178, x179, x180, h181)).bind fun (x320, x321, x322, h323) =>
 some (x320, x321, x322, h323)))))) else none) else none) else none)) else none) else none) else none)
abbrev ks105 : List SK := [.agg [.str, .ref], .agg [.str, (.int .i64), (.int .i64), .ref]]
abbrev rs105 : List SK := [.one .ref, .one (.int .i64), .one (.int .i64)]
def e105 (N : Nat) : Env := ⟨Tryz.prog, 136, inTab [2, 3], inTab [], natTab [(2, 2), (3, 3), (18, 3), (22, 3), (66, 3), (95, 3)], inTab [], calTab [(139, .ro (mkFun ks139 rs139 (F139 N))), (140, .full (mkFun ks140 rs140 (F140 N)))], altTab [], loopTab [(4, ⟨⟨.normal, [2, 3, 7, 8, 27, 28], [.lp 2 0, .lp 3 0, .one .ref, .one .ref, .one (.int .i64), .one (.int .i64)], [2, 3], [.cells [.str, .ref], .cells [.str, (.int .i64), (.int .i64), .ref]]⟩, [⟨(.exit 0), [2, 3, 7, 8], [.lp 2 0, .lp 3 0, .one .ref, .one .ref], [2, 3], [.cells [.str, .ref], .cells [.str, (.int .i64), (.int .i64), .ref]]⟩], L105_0 N⟩), (10, ⟨⟨.normal, [2, 3, 7, 8, 10], [.lp 2 0, .lp 3 0, .one .ref, .one .ref, .one (.int .i64)], [2, 3], [.cells [.str, .ref], .cells [.str, (.int .i64), (.int .i64), .ref]]⟩, [⟨(.exit 2), [2, 3, 7, 8, 10], [.lp 2 0, .lp 3 0, .one .ref, .one .ref, .one (.int .i64)], [2, 3], [.cells [.str, .ref], .cells [.str, (.int .i64), (.int .i64), .ref]]⟩], L105_1 N⟩), (21, ⟨⟨.normal, [2, 3, 7, 8, 14, 15, 101, 102, 103], [.lp 2 0, .lp 3 0, .one .ref, .one .ref, .one (.int .i64), .one (.int .i64), .one .ref, .one (.int .i64), .one (.int .i64)], [2, 3], [.cells [.str, .ref], .cells [.str, (.int .i64), (.int .i64), .ref]]⟩, [⟨(.exit 4), [2, 3, 7, 8, 15], [.lp 2 0, .lp 3 0, .one .ref, .one .ref, .one (.int .i64)], [2, 3], [.cells [.str, .ref], .cells [.str, (.int .i64), (.int .i64), .ref]]⟩], L105_2 N⟩), (1000000, ⟨⟨.normal, [2, 3, 7, 8, 10], [.lp 2 0, .lp 3 0, .one .ref, .one .ref, .one (.int .i64)], [2, 3], [.cells [.str, .ref], .cells [.str, (.int .i64), (.int .i64), .ref]]⟩, [⟨.ret, [4, 5, 6], [.one .ref, .one (.int .i64), .one (.int .i64)], [], []⟩], L105_3 N⟩)], natTab [], inTab [18, 24, 26, 27, 29]⟩
theorem l105_0 (N : Nat) : ∀ A, (e105 N).lp (lid (loopAt Tryz.f105 1)) = some A → LoopOk (e105 N) N (loopAt Tryz.f105 1) A :=
  loopOk_of (A := ⟨⟨.normal, [2, 3, 7, 8, 27, 28], [.lp 2 0, .lp 3 0, .one .ref, .one .ref, .one (.int .i64), .one (.int .i64)], [2, 3], [.cells [.str, .ref], .cells [.str, (.int .i64), (.int .i64), .ref]]⟩, [⟨(.exit 0), [2, 3, 7, 8], [.lp 2 0, .lp 3 0, .one .ref, .one .ref], [2, 3], [.cells [.str, .ref], .cells [.str, (.int .i64), (.int .i64), .ref]]⟩], L105_0 N⟩) (by kernel_rfl) (fun _ => rfl) (fun _ _ => by kernel_rfl)
theorem l105_1 (N : Nat) : ∀ A, (e105 N).lp (lid (loopAt Tryz.f105 2)) = some A → LoopOk (e105 N) N (loopAt Tryz.f105 2) A :=
  loopOk_of (A := ⟨⟨.normal, [2, 3, 7, 8, 10], [.lp 2 0, .lp 3 0, .one .ref, .one .ref, .one (.int .i64)], [2, 3], [.cells [.str, .ref], .cells [.str, (.int .i64), (.int .i64), .ref]]⟩, [⟨(.exit 2), [2, 3, 7, 8, 10], [.lp 2 0, .lp 3 0, .one .ref, .one .ref, .one (.int .i64)], [2, 3], [.cells [.str, .ref], .cells [.str, (.int .i64), (.int .i64), .ref]]⟩], L105_1 N⟩) (by kernel_rfl) (fun _ => rfl) (fun _ _ => by kernel_rfl)
theorem l105_2 (N : Nat) : ∀ A, (e105 N).lp (lid (loopAt Tryz.f105 3)) = some A → LoopOk (e105 N) N (loopAt Tryz.f105 3) A :=
  loopOk_of (A := ⟨⟨.normal, [2, 3, 7, 8, 14, 15, 101, 102, 103], [.lp 2 0, .lp 3 0, .one .ref, .one .ref, .one (.int .i64), .one (.int .i64), .one .ref, .one (.int .i64), .one (.int .i64)], [2, 3], [.cells [.str, .ref], .cells [.str, (.int .i64), (.int .i64), .ref]]⟩, [⟨(.exit 4), [2, 3, 7, 8, 15], [.lp 2 0, .lp 3 0, .one .ref, .one .ref, .one (.int .i64)], [2, 3], [.cells [.str, .ref], .cells [.str, (.int .i64), (.int .i64), .ref]]⟩], L105_2 N⟩) (by kernel_rfl) (fun _ => rfl) (fun _ _ => by kernel_rfl)
theorem l105_3 (N : Nat) : ∀ A, (e105 N).lp (lbKey 0) = some A → LabelOk (e105 N) N 0 (loopAt Tryz.f105 0) A :=
  labelOk_of (A := ⟨⟨.normal, [2, 3, 7, 8, 10], [.lp 2 0, .lp 3 0, .one .ref, .one .ref, .one (.int .i64)], [2, 3], [.cells [.str, .ref], .cells [.str, (.int .i64), (.int .i64), .ref]]⟩, [⟨.ret, [4, 5, 6], [.one .ref, .one (.int .i64), .one (.int .i64)], [], []⟩], L105_3 N⟩) (by kernel_rfl) (fun _ => rfl) (fun _ _ => by kernel_rfl)
theorem fine105 (N : Nat) : Fine (e105 N) N 105 Tryz.f105 ks105 rs105 (F105 N) :=
  ⟨Tryz.func105, by kernel_rfl, by kernel_rfl, by kernel_rfl, loops_of ⟨l105_3 N, ⟨l105_0 N, ⟨l105_1 N, ⟨l105_2 N, trivial⟩⟩⟩⟩, by kernel_rfl, by kernel_rfl, fun _ => by kernel_rfl⟩
theorem good105 (N : Nat) : Go.L.Good (e105 N) := good_of ⟨gd139 N, ⟨gd140 N, trivial⟩⟩
theorem gd105 (N : Nat) : CalOk Tryz.prog 105 (.full (mkFun ks105 rs105 (F105 N))) := mkFun_good (fine105 N) (good105 N)

/-! ### 57: code.Check -/
def L57_0 (N : Nat) : Nat → Int × Int × ByteArray × V × H → Option (ByteArray × V × H)
 | 0, _ => none
 | n + 1, (x17, x18, x19, x20, h21) =>
 (if (decide (x18 < x17)) = true then (
 (F103 N (x19, x20, x18, h21)).bind fun (x22, h23) =>
 (if (!x22) = true then (
 none)
 else (
 L57_0 N n (x17, (IntKind.i64.wrap (x18 + 1)), x19, x20, h23))))
 else (
 some (x19, x20, h21)))
def L57_1 (N : Nat) : Nat → V × Int × Int × ByteArray × V × H → Option (ByteArray × V × H)
 | 0, _ => none
 | n + 1, (x42, x43, x44, x45, x46, h47) =>
 (if (decide (x44 < x43)) = true then (
 (sidx x42 x44 4).bind fun q48 =>
 (L.asStr (rd h47 q48 0)).bind fun x49 =>
 (L.asInt .i64 (rd h47 q48 1)).bind fun x50 =>
 (L.asInt .i64 (rd h47 q48 2)).bind fun x51 =>
 ((rd h47 q48 3)).bind fun x52 =>
 (F104 N (x45, x46, x49, x50, x51, x52, h47)).bind fun (x53, x54, h55) =>
 (if (x53 != 0) = true then (
 none)
 else (
 L57_1 N n (x42, x43, (IntKind.i64.wrap (x44 + 1)), x45, x46, h55))))
 else (
 some (x45, x46, h47)))
def L57_2 (N : Nat) : Nat → V × Int × Int × ByteArray × V × H → Option (H)
 | 0, _ => none
 | n + 1, (x75, x76, x77, x78, x79, h80) =>
 (if (decide (x77 < x76)) = true then (
 (sidx x75 x77 4).bind fun q81 =>
 (L.asStr (rd h80 q81 0)).bind fun x82 =>
 (L.asInt .i64 (rd h80 q81 1)).bind fun x83 =>
 (L.asInt .i64 (rd h80 q81 2)).bind fun x84 =>
 ((rd h80 q81 3)).bind fun x85 =>
 (F105 N (x78, x79, x82, x83, x84, x85, h80)).bind fun (x86, x87, x88, h89) =>
 (if (x87 != 0) = true then (
 none)
 else (
 L57_2 N n (x75, x76, (IntKind.i64.wrap (x77 + 1)), x78, x79, h89))))
 else (
 some h80))
def F57 (N : Nat) : ByteArray × V × H → Option (Int × Int × Int × H)
 | (a0_0, a0_1, h) =>
 (F102 N (a0_0, h)).bind fun (x1, h2) =>
 (if (!x1) = true then (
 some (true, h2))
 else (
 (slen a0_1).bind fun n5 =>
 some ((decide (n5 < 1)), h2))).bind fun (b3, h4) =>
 (if b3 = true then (
 some (true, h4))
 else (
 (slen a0_1).bind fun n8 =>
 some ((decide (n8 > 64)), h4))).bind fun (b6, h7) =>
 (if b6 = true then (
 none)
 else (
 (slen a0_1).bind fun n9 =>
 (L57_0 N N (n9, 0, a0_0, a0_1, h7)).bind fun (x24, x25, h26) =>
 (slen x25).bind fun n27 =>
 (L57_1 N N (x25, n27, 0, x24, x25, h26)).bind fun (x56, x57, h58) =>
 (slen x57).bind fun n59 =>
 (L57_2 N N (x57, n59, 0, x56, x57, h58)).bind fun h90 =>
 some (0, 0, 0, h90)))
abbrev ks57 : List SK := [.agg [.str, .ref]]
abbrev rs57 : List SK := [.one (.int .i64), .one (.int .i64), .one (.int .i64)]
def e57 (N : Nat) : Env := ⟨Tryz.prog, 84, inTab [1, 7, 11], inTab [], natTab [(1, 1), (7, 7), (11, 11), (15, 1), (20, 1), (26, 1), (31, 1), (43, 1), (63, 1)], inTab [], calTab [(102, .full (mkFun ks102 rs102 (F102 N))), (103, .full (mkFun ks103 rs103 (F103 N))), (104, .full (mkFun ks104 rs104 (F104 N))), (105, .full (mkFun ks105 rs105 (F105 N)))], altTab [], loopTab [(4, ⟨⟨.normal, [1, 33, 34], [.lp 1 0, .one (.int .i64), .one (.int .i64)], [1], [.cells [.str, .ref]]⟩, [⟨(.exit 0), [1], [.lp 1 0], [1], [.cells [.str, .ref]]⟩], L57_0 N⟩), (10, ⟨⟨.normal, [1, 44, 45, 46], [.lp 1 0, .one .ref, .one (.int .i64), .one (.int .i64)], [1], [.cells [.str, .ref]]⟩, [⟨(.exit 2), [1], [.lp 1 0], [1], [.cells [.str, .ref]]⟩], L57_1 N⟩), (17, ⟨⟨.normal, [1, 64, 65, 66], [.lp 1 0, .one .ref, .one (.int .i64), .one (.int .i64)], [1], [.cells [.str, .ref]]⟩, [⟨(.exit 4), [], [], [], []⟩], L57_2 N⟩)], natTab [], inTab [2, 7, 14, 21]⟩
theorem l57_0 (N : Nat) : ∀ A, (e57 N).lp (lid (loopAt Tryz.f57 0)) = some A → LoopOk (e57 N) N (loopAt Tryz.f57 0) A :=
  loopOk_of (A := ⟨⟨.normal, [1, 33, 34], [.lp 1 0, .one (.int .i64), .one (.int .i64)], [1], [.cells [.str, .ref]]⟩, [⟨(.exit 0), [1], [.lp 1 0], [1], [.cells [.str, .ref]]⟩], L57_0 N⟩) (by kernel_rfl) (fun _ => rfl) (fun _ _ => by kernel_rfl)
theorem l57_1 (N : Nat) : ∀ A, (e57 N).lp (lid (loopAt Tryz.f57 1)) = some A → LoopOk (e57 N) N (loopAt Tryz.f57 1) A :=
  loopOk_of (A := ⟨⟨.normal, [1, 44, 45, 46], [.lp 1 0, .one .ref, .one (.int .i64), .one (.int .i64)], [1], [.cells [.str, .ref]]⟩, [⟨(.exit 2), [1], [.lp 1 0], [1], [.cells [.str, .ref]]⟩], L57_1 N⟩) (by kernel_rfl) (fun _ => rfl) (fun _ _ => by kernel_rfl)
theorem l57_2 (N : Nat) : ∀ A, (e57 N).lp (lid (loopAt Tryz.f57 2)) = some A → LoopOk (e57 N) N (loopAt Tryz.f57 2) A :=
  loopOk_of (A := ⟨⟨.normal, [1, 64, 65, 66], [.lp 1 0, .one .ref, .one (.int .i64), .one (.int .i64)], [1], [.cells [.str, .ref]]⟩, [⟨(.exit 4), [], [], [], []⟩], L57_2 N⟩) (by kernel_rfl) (fun _ => rfl) (fun _ _ => by kernel_rfl)
theorem fine57 (N : Nat) : Fine (e57 N) N 57 Tryz.f57 ks57 rs57 (F57 N) :=
  ⟨Tryz.func57, by kernel_rfl, by kernel_rfl, by kernel_rfl, loops_of ⟨l57_0 N, ⟨l57_1 N, ⟨l57_2 N, trivial⟩⟩⟩, by kernel_rfl, by kernel_rfl, fun _ => by kernel_rfl⟩
theorem good57 (N : Nat) : Go.L.Good (e57 N) := good_of ⟨gd102 N, ⟨gd103 N, ⟨gd104 N, ⟨gd105 N, trivial⟩⟩⟩⟩
theorem gd57 (N : Nat) : CalOk Tryz.prog 57 (.full (mkFun ks57 rs57 (F57 N))) := mkFun_good (fine57 N) (good57 N)

/-! ### 42: node.cored -/
def L42_1 (N : Nat) : Nat → Int × Int × List V × Int × V × V × V × V × V × V × V × V × V × V × Int × Int × V × H → Option (Int × Int × V × V × V × V × V × V × V × V × V × V × Int × Int × V × H)
 | 0, _ => none
 | n + 1, (x79, x80, cs81, x82, x83, x84, x85, x86, x87, x88, x89, x90, x91, x92, x93, x94, x95, h96) =>
 (if (decide (x82 < 3)) = true then (
 (if 0 ≤ x82 then (if x82 < 3 then (
 ((cs81)[Int.toNat x82 * 1]?).bind fun x97 =>
 (F89 N (x97, h96)).bind fun (x98, _) =>
 (if (!x98) = true then (
 none)
 else (
 L42_1 N n (x79, x80, cs81, (IntKind.i64.wrap (x82 + 1)), x83, x84, x85, x86, x87, x88, x89, x90, x91, x92, x93, x94, x95, h96)))) else none) else none))
 else (
 some (x79, x80, x83, x84, x85, x86, x87, x88, x89, x90, x91, x92, x93, x94, x95, h96)))
def L42_0 (N : Nat) : Nat → Int × Int × V × V × V × V × V × V × V × V × V × V × Int × Int × V × H → Option (V × V × V × V × V × V × V × V × V × V × Int × Int × V × H)
 | 0, _ => none
 | n + 1, (x115, x116, x117, x118, x119, x120, x121, x122, x123, x124, x125, x126, x127, x128, x129, h130) =>
 (if (decide (x116 < x115)) = true then (
 (sidx x122 x116 1).bind fun q131 =>
 (L.asInt .i64 (rd h130 q131 0)).bind fun x132 =>
 (slen x117).bind fun n133 =>
 (F87 100 (x132, 0, (IntKind.i64.wrap (n133 - 1)), [])).bind fun (x134, _) =>
 (if (!x134) = true then (
 some (true, h130))
 else (
 (sidx x123 x116 1).bind fun q137 =>
 (L.asInt .i64 (rd h130 q137 0)).bind fun x138 =>
 (F87 100 (x138, 0, 4611686018427387903, [])).bind fun (x139, _) =>
 some ((!x139), h130))).bind fun (b135, h136) =>
 (if b135 = true then (
 some (true, h136))
 else (
 (sidx x124 x116 1).bind fun q142 =>
 (L.asInt .i64 (rd h136 q142 0)).bind fun x143 =>
 (sidx x123 x116 1).bind fun q144 =>
 (L.asInt .i64 (rd h136 q144 0)).bind fun x145 =>
 (F87 100 (x143, 0, x145, [])).bind fun (x146, _) =>
 some ((!x146), h136))).bind fun (b140, h141) =>
 (if b140 = true then (
 none)
 else (
 (sidx x122 x116 1).bind fun q147 =>
 (L.asInt .i64 (rd h141 q147 0)).bind fun x148 =>
 (sidx x121 x116 3).bind fun q149 =>
 (rdN h141 q149 3).bind fun cs150 =>
 (F88 N (x117, x148, cs150, h141)).bind fun (x151, x152, h153) =>
 (if (x152 != 0) = true then (
 none)
 else (
 (sidx x121 x116 3).bind fun q154 =>
 (rdN h153 q154 3).bind fun cs155 =>
 (L42_1 N N (x115, x116, cs155, 0, x117, x118, x119, x120, x121, x122, x123, x124, x125, x126, x127, x128, x129, h153)).bind fun (x156, x157, x158, x159, x160, x161, x162, x163, x164, x165, x166, x167, x168, x169, x170, h171) =>
 L42_0 N n (x156, (IntKind.i64.wrap (x157 + 1)), x158, x159, x160, x161, x162, x163, x164, x165, x166, x167, x168, x169, x170, h171))))))
 else (
 some (x117, x118, x119, x120, x121, x122, x123, x124, x125, x126, x127, x128, x129, h130)))
def L42_2 (N : Nat) : Nat → V × Int × Int × V × V × V × V × V × V × V × V × V × V × Int × Int × V × H → Option (V × V × V × V × V × V × V × V × V × V × Int × Int × V × H)
 | 0, _ => none
 | n + 1, (x218, x219, x220, x221, x222, x223, x224, x225, x226, x227, x228, x229, x230, x231, x232, x233, h234) =>
 (if (decide (x220 < x219)) = true then (
 (sidx x218 x220 2).bind fun q235 =>
 (L.asStr (rd h234 q235 0)).bind fun x236 =>
 ((rd h234 q235 1)).bind fun x237 =>
 (F57 N (x236, x237, h234)).bind fun (x238, x239, x240, h241) =>
 (if (x238 != 0) = true then (
 none)
 else (
 L42_2 N n (x218, x219, (IntKind.i64.wrap (x220 + 1)), x221, x222, x223, x224, x225, x226, x227, x228, x229, x230, x231, x232, x233, h241))))
 else (
 some (x221, x222, x223, x224, x225, x226, x227, x228, x229, x230, x231, x232, x233, h234)))
def L42_3 (N : Nat) : Nat → Int × Int × V × V × V × V × V × V × V × V × V × V × Int × Int × V × H → Option (V × V × V × V × V × V × V × V × V × V × Int × Int × V × H)
 | 0, _ => none
 | n + 1, (x273, x274, x275, x276, x277, x278, x279, x280, x281, x282, x283, x284, x285, x286, x287, h288) =>
 (if (decide (x274 < x273)) = true then (
 none)
 else (
 some (x275, x276, x277, x278, x279, x280, x281, x282, x283, x284, x285, x286, x287, h288)))
def F42 (N : Nat) : V × V × V × V × V × V × V × V × V × V × Int × Int × V × H → Option (Bool × H)
 | (a0_0, a0_1, a0_2, a0_3, a0_4, a0_5, a0_6, a0_7, a0_8, a0_9, a0_10, a0_11, a0_12, h) =>
 (slen a0_4).bind fun n1 =>
 (F49 N (a0_0, h)).bind fun (x2, _) =>
 (if (x2 != 0) = true then (
 some (true, h))
 else (
 (F87 100 (n1, 1, 16, [])).bind fun (x5, _) =>
 some ((!x5), h))).bind fun (b3, h4) =>
 (if b3 = true then (
 some (true, h4))
 else (
 (slen a0_5).bind fun n8 =>
 some ((n8 != n1), h4))).bind fun (b6, h7) =>
 (if b6 = true then (
 some (true, h7))
 else (
 (slen a0_6).bind fun n11 =>
 some ((n11 != n1), h7))).bind fun (b9, h10) =>
 (if b9 = true then (
 some (true, h10))
 else (
 (slen a0_7).bind fun n14 =>
 some ((n14 != n1), h10))).bind fun (b12, h13) =>
 (if b12 = true then (
 some (true, h13))
 else (
 (slen a0_8).bind fun n17 =>
 some ((n17 != n1), h13))).bind fun (b15, h16) =>
 (if b15 = true then (
 none)
 else (
 (L42_0 N N (n1, 0, a0_0, a0_1, a0_2, a0_3, a0_4, a0_5, a0_6, a0_7, a0_8, a0_9, a0_10, a0_11, a0_12, h16)).bind fun (x172, x173, x174, x175, x176, x177, x178, x179, x180, x181, x182, x183, x184, h185) =>
 (slen x173).bind fun n186 =>
 (if (decide (n186 > 32)) = true then (
 some (true, h185))
 else (
 (slen x184).bind fun n189 =>
 some ((decide (n189 > 4096)), h185))).bind fun (b187, h188) =>
 (if b187 = true then (
 some (true, h188))
 else (
 (slen x175).bind fun n192 =>
 some ((n192 != 256), h188))).bind fun (b190, h191) =>
 (if b190 = true then (
 none)
 else (
 (slen x173).bind fun n193 =>
 (L42_2 N N (x173, n193, 0, x172, x173, x174, x175, x176, x177, x178, x179, x180, x181, x182, x183, x184, h191)).bind fun (x242, x243, x244, x245, x246, x247, x248, x249, x250, x251, x252, x253, x254, h255) =>
 (slen x254).bind fun n256 =>
 (L42_3 N N (n256, 0, x242, x243, x244, x245, x246, x247, x248, x249, x250, x251, x252, x253, x254, h255)).bind fun (x289, x290, x291, x292, x293, x294, x295, x296, x297, x298, x299, x300, x301, h302) =>
 (F87 100 (x299, 0, 4611686018426339327, [])).bind fun (x303, _) =>
 (if x303 = true then (
 (F87 100 (x300, 1, 4611686018427387903, [])).bind fun (x306, _) =>
 some (x306, h302))
 else (
 some (false, h302))).bind fun (b304, h305) =>
 some (b304, h305)))))
abbrev ks42 : List SK := [.agg [.ref, .ref, .ref, .ref, .ref, .ref, .ref, .ref, .ref, .ref, (.int .i64), (.int .i64), .ref]]
abbrev rs42 : List SK := [.one .bool]
def e42 (N : Nat) : Env := ⟨Tryz.prog, 184, inTab [1, 10, 15], inTab [], natTab [(1, 1), (10, 10), (15, 15), (16, 1), (19, 1), (29, 1), (36, 1), (43, 1), (50, 1), (60, 1), (65, 1), (72, 1), (81, 1), (86, 1), (95, 1), (97, 1), (102, 1), (112, 1), (125, 1), (130, 1), (136, 1), (141, 1), (157, 1), (164, 15), (170, 15), (176, 1), (180, 1)], inTab [], calTab [(49, .ro (mkFun ks49 rs49 (F49 N))), (87, .pure (mkP ks87 rs87 (F87 100))), (88, .full (mkFun ks88 rs88 (F88 N))), (89, .ro (mkFun ks89 rs89 (F89 N))), (57, .full (mkFun ks57 rs57 (F57 N)))], altTab [], loopTab [(5, ⟨⟨.normal, [1, 56, 57], [.lp 1 0, .one (.int .i64), .one (.int .i64)], [1], [.cells [.ref, .ref, .ref, .ref, .ref, .ref, .ref, .ref, .ref, .ref, (.int .i64), (.int .i64), .ref]]⟩, [⟨(.exit 0), [1], [.lp 1 0], [1], [.cells [.ref, .ref, .ref, .ref, .ref, .ref, .ref, .ref, .ref, .ref, (.int .i64), (.int .i64), .ref]]⟩], L42_0 N⟩), (13, ⟨⟨.normal, [1, 56, 57, 116, 117], [.lp 1 0, .one (.int .i64), .one (.int .i64), .blk, .one (.int .i64)], [1], [.cells [.ref, .ref, .ref, .ref, .ref, .ref, .ref, .ref, .ref, .ref, (.int .i64), (.int .i64), .ref]]⟩, [⟨(.exit 2), [1, 56, 57], [.lp 1 0, .one (.int .i64), .one (.int .i64)], [1], [.cells [.ref, .ref, .ref, .ref, .ref, .ref, .ref, .ref, .ref, .ref, (.int .i64), (.int .i64), .ref]]⟩], L42_1 N⟩), (22, ⟨⟨.normal, [1, 142, 143, 144], [.lp 1 0, .one .ref, .one (.int .i64), .one (.int .i64)], [1], [.cells [.ref, .ref, .ref, .ref, .ref, .ref, .ref, .ref, .ref, .ref, (.int .i64), (.int .i64), .ref]]⟩, [⟨(.exit 4), [1], [.lp 1 0], [1], [.cells [.ref, .ref, .ref, .ref, .ref, .ref, .ref, .ref, .ref, .ref, (.int .i64), (.int .i64), .ref]]⟩], L42_2 N⟩), (29, ⟨⟨.normal, [1, 159, 160], [.lp 1 0, .one (.int .i64), .one (.int .i64)], [1], [.cells [.ref, .ref, .ref, .ref, .ref, .ref, .ref, .ref, .ref, .ref, (.int .i64), (.int .i64), .ref]]⟩, [⟨(.exit 6), [1], [.lp 1 0], [1], [.cells [.ref, .ref, .ref, .ref, .ref, .ref, .ref, .ref, .ref, .ref, (.int .i64), (.int .i64), .ref]]⟩], L42_3 N⟩)], natTab [], inTab [3, 8, 11, 16, 20, 26, 30, 31, 32, 33]⟩
theorem l42_0 (N : Nat) : ∀ A, (e42 N).lp (lid (loopAt Tryz.f42 0)) = some A → LoopOk (e42 N) N (loopAt Tryz.f42 0) A :=
  loopOk_of (A := ⟨⟨.normal, [1, 56, 57], [.lp 1 0, .one (.int .i64), .one (.int .i64)], [1], [.cells [.ref, .ref, .ref, .ref, .ref, .ref, .ref, .ref, .ref, .ref, (.int .i64), (.int .i64), .ref]]⟩, [⟨(.exit 0), [1], [.lp 1 0], [1], [.cells [.ref, .ref, .ref, .ref, .ref, .ref, .ref, .ref, .ref, .ref, (.int .i64), (.int .i64), .ref]]⟩], L42_0 N⟩) (by kernel_rfl) (fun _ => rfl) (fun _ _ => by kernel_rfl)
theorem l42_1 (N : Nat) : ∀ A, (e42 N).lp (lid (loopAt Tryz.f42 1)) = some A → LoopOk (e42 N) N (loopAt Tryz.f42 1) A :=
  loopOk_of (A := ⟨⟨.normal, [1, 56, 57, 116, 117], [.lp 1 0, .one (.int .i64), .one (.int .i64), .blk, .one (.int .i64)], [1], [.cells [.ref, .ref, .ref, .ref, .ref, .ref, .ref, .ref, .ref, .ref, (.int .i64), (.int .i64), .ref]]⟩, [⟨(.exit 2), [1, 56, 57], [.lp 1 0, .one (.int .i64), .one (.int .i64)], [1], [.cells [.ref, .ref, .ref, .ref, .ref, .ref, .ref, .ref, .ref, .ref, (.int .i64), (.int .i64), .ref]]⟩], L42_1 N⟩) (by kernel_rfl) (fun _ => rfl) (fun _ _ => by kernel_rfl)
theorem l42_2 (N : Nat) : ∀ A, (e42 N).lp (lid (loopAt Tryz.f42 2)) = some A → LoopOk (e42 N) N (loopAt Tryz.f42 2) A :=
  loopOk_of (A := ⟨⟨.normal, [1, 142, 143, 144], [.lp 1 0, .one .ref, .one (.int .i64), .one (.int .i64)], [1], [.cells [.ref, .ref, .ref, .ref, .ref, .ref, .ref, .ref, .ref, .ref, (.int .i64), (.int .i64), .ref]]⟩, [⟨(.exit 4), [1], [.lp 1 0], [1], [.cells [.ref, .ref, .ref, .ref, .ref, .ref, .ref, .ref, .ref, .ref, (.int .i64), (.int .i64), .ref]]⟩], L42_2 N⟩) (by kernel_rfl) (fun _ => rfl) (fun _ _ => by kernel_rfl)
theorem l42_3 (N : Nat) : ∀ A, (e42 N).lp (lid (loopAt Tryz.f42 3)) = some A → LoopOk (e42 N) N (loopAt Tryz.f42 3) A :=
  loopOk_of (A := ⟨⟨.normal, [1, 159, 160], [.lp 1 0, .one (.int .i64), .one (.int .i64)], [1], [.cells [.ref, .ref, .ref, .ref, .ref, .ref, .ref, .ref, .ref, .ref, (.int .i64), (.int .i64), .ref]]⟩, [⟨(.exit 6), [1], [.lp 1 0], [1], [.cells [.ref, .ref, .ref, .ref, .ref, .ref, .ref, .ref, .ref, .ref, (.int .i64), (.int .i64), .ref]]⟩], L42_3 N⟩) (by kernel_rfl) (fun _ => rfl) (fun _ _ => by kernel_rfl)
theorem fine42 (N : Nat) : Fine (e42 N) N 42 Tryz.f42 ks42 rs42 (F42 N) :=
  ⟨Tryz.func42, by kernel_rfl, by kernel_rfl, by kernel_rfl, loops_of ⟨l42_0 N, ⟨l42_1 N, ⟨l42_2 N, ⟨l42_3 N, trivial⟩⟩⟩⟩, by kernel_rfl, by kernel_rfl, fun _ => by kernel_rfl⟩
theorem good42 (N : Nat) : Go.L.Good (e42 N) := good_of ⟨gd49 N, ⟨gd87, ⟨gd88 N, ⟨gd89 N, ⟨gd57 N, trivial⟩⟩⟩⟩⟩
theorem gd42 (N : Nat) : CalOk Tryz.prog 42 (.full (mkFun ks42 rs42 (F42 N))) := mkFun_good (fine42 N) (good42 N)

/-! ### 50: tie.New -/
def F50 (N : Nat) : H → Option (V × H)
 | h =>
 (some (h ++ [O.map 0 [] []]) : Option H).bind fun h1 =>
 (some (h1 ++ [O.map 0 [] []]) : Option H).bind fun h2 =>
 (ck1 (.map (h).length)).bind fun _ =>
 (ck1 (.map (h1).length)).bind fun _ =>
 (some (h2 ++ [O.cells 0 [(.map (h).length), (.map (h1).length)]]) : Option H).bind fun h3 =>
 some ((.ptr (h2).length 0 0), h3)
abbrev ks50 : List SK := []
abbrev rs50 : List SK := [.one .ref]
def e50 (N : Nat) : Env := ⟨Tryz.prog, 5, inTab [], inTab [], natTab [], inTab [], calTab [], altTab [], loopTab [], natTab [], inTab []⟩
theorem fine50 (N : Nat) : Fine (e50 N) N 50 Tryz.f50 ks50 rs50 (F50 N) :=
  ⟨Tryz.func50, by kernel_rfl, by kernel_rfl, by kernel_rfl, loops_of trivial, by kernel_rfl, by kernel_rfl, fun _ => by kernel_rfl⟩
theorem good50 (N : Nat) : Go.L.Good (e50 N) := good_of trivial
theorem gdg50 (N : Nat) : CalOk Tryz.prog 50 (.gro (mkFun ks50 rs50 (F50 N))) := mkFun_groC (fine50 N) (good50 N) (by kernel_rfl)

/-! ### 51: table.New -/
def F51 (N : Nat) : Int × H → Option (V × Int × H)
 | (a0, h) =>
 (if (decide (a0 < 1)) = true then (
 some (true, h))
 else (
 some ((decide (a0 > 256)), h))).bind fun (b1, h2) =>
 (if b1 = true then (
 none)
 else (
 (if 0 ≤ a0 then (if a0 ≤ a0 then (if a0 * ((3 : Nat) : Int) ≤ ((mostCells : Nat) : Int) then (
 (some (h2 ++ [O.cells 0 (repeatC (Int.toNat a0) [(.int .i64 0), (.bool false), (.str (ByteArray.mk #[]))])]) : Option H).bind fun h3 =>
 (some (h3 ++ [O.map 0 [] []]) : Option H).bind fun h4 =>
 (ck1 (.sl (h2).length 0 0 (Int.toNat a0) 3 (some (Int.toNat a0)))).bind fun _ =>
 (ck1 (.map (h3).length)).bind fun _ =>
 (some (h4 ++ [O.cells 0 [(.sl (h2).length 0 0 (Int.toNat a0) 3 (some (Int.toNat a0))), (.map (h3).length)]]) : Option H).bind fun h5 =>
 some ((.ptr (h4).length 0 0), 0, h5)) else none) else none) else none)))
abbrev ks51 : List SK := [.one (.int .i64)]
abbrev rs51 : List SK := [.one .ref, .one (.int .i64)]
def e51 (N : Nat) : Env := ⟨Tryz.prog, 15, inTab [], inTab [], natTab [], inTab [], calTab [], altTab [], loopTab [], natTab [], inTab [2]⟩
theorem fine51 (N : Nat) : Fine (e51 N) N 51 Tryz.f51 ks51 rs51 (F51 N) :=
  ⟨Tryz.func51, by kernel_rfl, by kernel_rfl, by kernel_rfl, loops_of trivial, by kernel_rfl, by kernel_rfl, fun _ => by kernel_rfl⟩
theorem good51 (N : Nat) : Go.L.Good (e51 N) := good_of trivial
theorem gdg51 (N : Nat) : CalOk Tryz.prog 51 (.gro (mkFun ks51 rs51 (F51 N))) := mkFun_groC (fine51 N) (good51 N) (by kernel_rfl)

/-! ### 52: homes.New -/
def F52 (N : Nat) : Int × H → Option (V × Int × H)
 | (a0, h) =>
 (if (decide (a0 < 1)) = true then (
 some (true, h))
 else (
 some ((decide (a0 > 16)), h))).bind fun (b1, h2) =>
 (if b1 = true then (
 none)
 else (
 (some (h2 ++ [O.cells 0 ((.int .i64 a0) :: List.replicate 48 (.int .i64 0))]) : Option H).bind fun h3 =>
 some ((.ptr (h2).length 0 0), 0, h3)))
abbrev ks52 : List SK := [.one (.int .i64)]
abbrev rs52 : List SK := [.one .ref, .one (.int .i64)]
def e52 (N : Nat) : Env := ⟨Tryz.prog, 13, inTab [], inTab [], natTab [], inTab [], calTab [], altTab [], loopTab [], natTab [], inTab [2]⟩
theorem fine52 (N : Nat) : Fine (e52 N) N 52 Tryz.f52 ks52 rs52 (F52 N) :=
  ⟨Tryz.func52, by kernel_rfl, by kernel_rfl, by kernel_rfl, loops_of trivial, by kernel_rfl, by kernel_rfl, fun _ => by kernel_rfl⟩
theorem good52 (N : Nat) : Go.L.Good (e52 N) := good_of trivial
theorem gdg52 (N : Nat) : CalOk Tryz.prog 52 (.gro (mkFun ks52 rs52 (F52 N))) := mkFun_groC (fine52 N) (good52 N) (by kernel_rfl)

/-! ### 53: log.New -/
def F53 (N : Nat) : Int × H → Option (V × Int × H)
 | (a0, h) =>
 (if (decide (a0 < 1)) = true then (
 some (true, h))
 else (
 some ((decide (a0 > 4096)), h))).bind fun (b1, h2) =>
 (if b1 = true then (
 none)
 else (
 (some (h2 ++ [O.cells 0 ((.int .i64 a0) :: .nils :: List.replicate 34 (.int .i64 0))]) : Option H).bind fun h3 =>
 some ((.ptr (h2).length 0 0), 0, h3)))
abbrev ks53 : List SK := [.one (.int .i64)]
abbrev rs53 : List SK := [.one .ref, .one (.int .i64)]
def e53 (N : Nat) : Env := ⟨Tryz.prog, 13, inTab [], inTab [], natTab [], inTab [], calTab [], altTab [], loopTab [], natTab [], inTab [2]⟩
theorem fine53 (N : Nat) : Fine (e53 N) N 53 Tryz.f53 ks53 rs53 (F53 N) :=
  ⟨Tryz.func53, by kernel_rfl, by kernel_rfl, by kernel_rfl, loops_of trivial, by kernel_rfl, by kernel_rfl, fun _ => by kernel_rfl⟩
theorem good53 (N : Nat) : Go.L.Good (e53 N) := good_of trivial
theorem gdg53 (N : Nat) : CalOk Tryz.prog 53 (.gro (mkFun ks53 rs53 (F53 N))) := mkFun_groC (fine53 N) (good53 N) (by kernel_rfl)

/-! ### 54: core.New -/
def F54 (N : Nat) : V × H → Option (V × Int × H)
 | (a0, h) =>
 (F88 N (a0, 0, [.nils, .nils, .nils], h)).bind fun (x1, x2, h3) =>
 some (x1, x2, h3)
abbrev ks54 : List SK := [.one .ref]
abbrev rs54 : List SK := [.one .ref, .one (.int .i64)]
def e54 (N : Nat) : Env := ⟨Tryz.prog, 9, inTab [], inTab [], natTab [], inTab [], calTab [(88, .full (mkFun ks88 rs88 (F88 N)))], altTab [], loopTab [], natTab [], inTab []⟩
theorem fine54 (N : Nat) : Fine (e54 N) N 54 Tryz.f54 ks54 rs54 (F54 N) :=
  ⟨Tryz.func54, by kernel_rfl, by kernel_rfl, by kernel_rfl, loops_of trivial, by kernel_rfl, by kernel_rfl, fun _ => by kernel_rfl⟩
theorem good54 (N : Nat) : Go.L.Good (e54 N) := good_of ⟨gd88 N, trivial⟩
theorem gd54 (N : Nat) : CalOk Tryz.prog 54 (.full (mkFun ks54 rs54 (F54 N))) := mkFun_good (fine54 N) (good54 N)

/-! ### 55: timer.New -/
def F55 (N : Nat) : Int × H → Option (V × Int × H)
 | (a0, h) =>
 (if (decide (a0 < 0)) = true then (
 some (true, h))
 else (
 some ((decide (a0 > 4611686018426339327)), h))).bind fun (b1, h2) =>
 (if b1 = true then (
 none)
 else (
 (some (h2 ++ [O.cells 0 ((.bool true) :: (.int .i64 a0) :: (.int .i64 0) :: List.replicate 257 .nils)]) : Option H).bind fun h3 =>
 some ((.ptr (h2).length 0 0), 0, h3)))
abbrev ks55 : List SK := [.one (.int .i64)]
abbrev rs55 : List SK := [.one .ref, .one (.int .i64)]
def e55 (N : Nat) : Env := ⟨Tryz.prog, 13, inTab [], inTab [], natTab [], inTab [], calTab [], altTab [], loopTab [], natTab [], inTab [2]⟩
theorem fine55 (N : Nat) : Fine (e55 N) N 55 Tryz.f55 ks55 rs55 (F55 N) :=
  ⟨Tryz.func55, by kernel_rfl, by kernel_rfl, by kernel_rfl, loops_of trivial, by kernel_rfl, by kernel_rfl, fun _ => by kernel_rfl⟩
theorem good55 (N : Nat) : Go.L.Good (e55 N) := good_of trivial
theorem gdg55 (N : Nat) : CalOk Tryz.prog 55 (.gro (mkFun ks55 rs55 (F55 N))) := mkFun_groC (fine55 N) (good55 N) (by kernel_rfl)

/-! ### 20: node.New -/
def L20_0 (N : Nat) : Nat → V × V × Int × Int × H → Option (V × H)
 | 0, _ => none
 | n + 1, (x37, x38, x39, x40, h41) =>
 (if (decide (x40 < x39)) = true then (
 (F54 N (x37, h41)).bind fun (x42, x43, h44) =>
 (F55 N (0, h44)).bind fun (x45, x46, h47) =>
 (nck x38).bind fun _ =>
 ((rd h47 (padd x38 5) 0)).bind fun x48 =>
 (ck1 x42).bind fun _ =>
 (ck1 x45).bind fun _ =>
 (happ h47 x48 4 1 [x42, x45, (.int .i64 0), (.int .i64 0)]).bind fun (v49, h50) =>
 (nck x38).bind fun _ =>
 (ck1 v49).bind fun _ =>
 (wr h50 (padd x38 5) [v49]).bind fun h51 =>
 L20_0 N n (x37, x38, x39, (IntKind.i64.wrap (x40 + 1)), h51))
 else (
 some (x38, h41)))
def F20 (N : Nat) : Int × V × H → Option (V × Int × H)
 | (a0, a1, h) =>
 (if (decide (a0 < 1)) = true then (
 some (true, h))
 else (
 some ((decide (a0 > 16)), h))).bind fun (b1, h2) =>
 (if b1 = true then (
 none)
 else (
 (F49 N (a1, h2)).bind fun (x3, _) =>
 (if (x3 != 0) = true then (
 none)
 else (
 Option.bind (α := (V × H)) (locF true ks31 rs31 (F31 N) ((a1, h2) : V × H)) fun (x4, h5) =>
 (F50 N h5).bind fun (x6, h7) =>
 (some (h7 ++ [O.map 0 [] []]) : Option H).bind fun h8 =>
 (ck1 x4).bind fun _ =>
 (ck1 x6).bind fun _ =>
 (ck1 (.map (h7).length)).bind fun _ =>
 (some (h8 ++ [O.cells 0 [x4, .nils, .nilp, .nilp, x6, .nils, (.map (h7).length), (.int .i64 0), (.int .i64 1), .nils, .nilp, .nils, (.int .i64 0), .nils]]) : Option H).bind fun h9 =>
 (F51 N (256, h9)).bind fun (x10, x11, h12) =>
 (ck1 x10).bind fun _ =>
 (wr h12 (.ptr (h8).length 0 2) [x10]).bind fun h13 =>
 (F52 N (a0, h13)).bind fun (x14, x15, h16) =>
 (ck1 x14).bind fun _ =>
 (wr h16 (.ptr (h8).length 0 3) [x14]).bind fun h17 =>
 (F53 N (4096, h17)).bind fun (x18, x19, h20) =>
 (ck1 x18).bind fun _ =>
 (wr h20 (.ptr (h8).length 0 10) [x18]).bind fun h21 =>
 (L20_0 N N (a1, (.ptr (h8).length 0 0), a0, 0, h21)).bind fun (x52, h53) =>
 some (x52, 0, h53)))))
abbrev ks20 : List SK := [.one (.int .i64), .one .ref]
abbrev rs20 : List SK := [.one .ref, .one (.int .i64)]
def e20 (N : Nat) : Env := ⟨Tryz.prog, 77, inTab [71], inTab [], natTab [], inTab [], calTab [(49, .ro (mkFun ks49 rs49 (F49 N))), (31, .gro (mkFun ks31 rs31 (locF true ks31 rs31 (F31 N)))), (50, .gro (mkFun ks50 rs50 (F50 N))), (51, .gro (mkFun ks51 rs51 (F51 N))), (52, .gro (mkFun ks52 rs52 (F52 N))), (53, .gro (mkFun ks53 rs53 (F53 N))), (54, .full (mkFun ks54 rs54 (F54 N))), (55, .gro (mkFun ks55 rs55 (F55 N)))], altTab [], loopTab [(11, ⟨⟨.normal, [1, 7, 51, 52], [.one .ref, .one .ref, .one (.int .i64), .one (.int .i64)], [], []⟩, [⟨(.exit 0), [7], [.one .ref], [], []⟩], L20_0 N⟩)], natTab [], inTab [2, 5]⟩
theorem l20_0 (N : Nat) : ∀ A, (e20 N).lp (lid (loopAt Tryz.f20 0)) = some A → LoopOk (e20 N) N (loopAt Tryz.f20 0) A :=
  loopOk_of (A := ⟨⟨.normal, [1, 7, 51, 52], [.one .ref, .one .ref, .one (.int .i64), .one (.int .i64)], [], []⟩, [⟨(.exit 0), [7], [.one .ref], [], []⟩], L20_0 N⟩) (by kernel_rfl) (fun _ => rfl) (fun _ _ => by kernel_rfl)
theorem fine20 (N : Nat) : Fine (e20 N) N 20 Tryz.f20 ks20 rs20 (F20 N) :=
  ⟨Tryz.func20, by kernel_rfl, by kernel_rfl, by kernel_rfl, loops_of ⟨l20_0 N, trivial⟩, by kernel_rfl, by kernel_rfl, fun _ => by kernel_rfl⟩
theorem good20 (N : Nat) : Go.L.Good (e20 N) := good_of ⟨gd49 N, ⟨gl31 N, ⟨gdg50 N, ⟨gdg51 N, ⟨gdg52 N, ⟨gdg53 N, ⟨gd54 N, ⟨gdg55 N, trivial⟩⟩⟩⟩⟩⟩⟩⟩
theorem gd20 (N : Nat) : CalOk Tryz.prog 20 (.full (mkFun ks20 rs20 (F20 N))) := mkFun_good (fine20 N) (good20 N)
theorem gl20 (N : Nat) : CalOk Tryz.prog 20 (.full (mkFun ks20 rs20 (locF false ks20 rs20 (F20 N)))) := loc_full (gd20 N)

/-! ### 43: table.Load -/
def L43_0 (N : Nat) : Nat → V × V × V × V × V × Int × Int × H → Option (V × V × V × V × H)
 | 0, _ => none
 | n + 1, (x25, x26, x27, x28, x29, x30, x31, h32) =>
 (if (decide (x31 < x30)) = true then (
 (sidx x29 x31 1).bind fun q33 =>
 (L.asInt .i64 (rd h32 q33 0)).bind fun x34 =>
 (if (decide (x34 < 0)) = true then (
 some (true, h32))
 else (
 some ((decide (x34 > 4611686018427387903)), h32))).bind fun (b35, h36) =>
 (if b35 = true then (
 none)
 else (
 (nck x28).bind fun _ =>
 ((rd h36 (padd x28 0) 0)).bind fun x37 =>
 (sidx x37 x31 3).bind fun q38 =>
 (wr h36 (padd q38 0) [(.int .i64 x34)]).bind fun h39 =>
 L43_0 N n (x25, x26, x27, x28, x29, x30, (IntKind.i64.wrap (x31 + 1)), h39))))
 else (
 some (x25, x26, x27, x28, h32)))
def L43_1 (N : Nat) : Nat → V × V × V × V × V × Int × Int × H → Option (V × V × V × H)
 | 0, _ => none
 | n + 1, (x75, x76, x77, x78, x79, x80, x81, h82) =>
 (if (decide (x81 < x80)) = true then (
 (sidx x79 x81 2).bind fun q83 =>
 (L.asInt .i64 (rd h82 q83 0)).bind fun x84 =>
 (L.asInt .i64 (rd h82 q83 1)).bind fun x85 =>
 (if (decide (x84 < 0)) = true then (
 some (true, h82))
 else (
 (slen x75).bind fun n88 =>
 some ((decide (x84 ≥ n88)), h82))).bind fun (b86, h87) =>
 (if b86 = true then (
 some (true, h87))
 else (
 (if (decide (x81 > 0)) = true then (
 (sidx x76 (IntKind.i64.wrap (x81 - 1)) 2).bind fun q93 =>
 (L.asInt .i64 (rd h87 (padd q93 0) 0)).bind fun x94 =>
 some ((decide (x94 ≥ x84)), h87))
 else (
 some (false, h87))).bind fun (b91, h92) =>
 some (b91, h92))).bind fun (b89, h90) =>
 (if b89 = true then (
 some (true, h90))
 else (
 some ((decide (x85 < 1)), h90))).bind fun (b95, h96) =>
 (if b95 = true then (
 some (true, h96))
 else (
 (sidx x75 x84 1).bind fun q99 =>
 (L.asInt .i64 (rd h96 q99 0)).bind fun x100 =>
 some ((x85 != x100), h96))).bind fun (b97, h98) =>
 (if b97 = true then (
 none)
 else (
 (nck x78).bind fun _ =>
 ((rd h98 (padd x78 0) 0)).bind fun x101 =>
 (sidx x101 x84 3).bind fun q102 =>
 (wr h98 (padd q102 1) [(.bool true)]).bind fun h103 =>
 L43_1 N n (x75, x76, x77, x78, x79, x80, (IntKind.i64.wrap (x81 + 1)), h103))))
 else (
 some (x76, x77, x78, h82)))
def L43_2 (N : Nat) : Nat → V × V × V × Int × Int × H → Option (V × H)
 | 0, _ => none
 | n + 1, (x122, x123, x124, x125, x126, h127) =>
 (if (decide (x126 < x125)) = true then (
 (sidx x124 x126 1).bind fun q128 =>
 (L.asStr (rd h127 q128 0)).bind fun x129 =>
 (if (!((x129).toList == ((ByteArray.mk #[])).toList)) = true then (
 (sidx x122 x126 2).bind fun q132 =>
 (L.asInt .i64 (rd h127 q132 0)).bind fun x133 =>
 (L.asInt .i64 (rd h127 q132 1)).bind fun x134 =>
 none)
 else (
 some (false, h127))).bind fun (b130, h131) =>
 (if b130 = true then (
 none)
 else (
 L43_2 N n (x122, x123, x124, x125, (IntKind.i64.wrap (x126 + 1)), h131))))
 else (
 some (x123, h127)))
def F43 (N : Nat) : V × V × V × H → Option (V × Int × H)
 | (a0, a1, a2, h) =>
 (slen a0).bind fun n1 =>
 (F51 N (n1, h)).bind fun (x2, x3, h4) =>
 (if (x3 != 0) = true then (
 some (true, h4))
 else (
 (slen a2).bind fun n7 =>
 (slen a1).bind fun n8 =>
 some ((n7 != n8), h4))).bind fun (b5, h6) =>
 (if b5 = true then (
 none)
 else (
 (slen a0).bind fun n9 =>
 (L43_0 N N (a0, a1, a2, x2, a0, n9, 0, h6)).bind fun (x40, x41, x42, x43, h44) =>
 (slen x41).bind fun n45 =>
 (L43_1 N N (x40, x41, x42, x43, x41, n45, 0, h44)).bind fun (x104, x105, x106, h107) =>
 (slen x105).bind fun n108 =>
 (L43_2 N N (x104, x106, x105, n108, 0, h107)).bind fun (x135, h136) =>
 some (x135, 0, h136)))
abbrev ks43 : List SK := [.one .ref, .one .ref, .one .ref]
abbrev rs43 : List SK := [.one .ref, .one (.int .i64)]
def e43 (N : Nat) : Env := ⟨Tryz.prog, 130, inTab [13], inTab [], natTab [(13, 13), (60, 13), (64, 13), (80, 13), (86, 13), (91, 13), (94, 13), (104, 13)], inTab [], calTab [(51, .gro (mkFun ks51 rs51 (F51 N)))], altTab [], loopTab [(5, ⟨⟨.normal, [0, 1, 2, 8, 31, 32, 33], [.one .ref, .one .ref, .one .ref, .one .ref, .one .ref, .one (.int .i64), .one (.int .i64)], [], []⟩, [⟨(.exit 0), [0, 1, 2, 8], [.one .ref, .one .ref, .one .ref, .one .ref], [], []⟩], L43_0 N⟩), (12, ⟨⟨.normal, [0, 1, 2, 8, 53, 54, 55], [.one .ref, .one .ref, .one .ref, .one .ref, .one .ref, .one (.int .i64), .one (.int .i64)], [], []⟩, [⟨(.exit 2), [1, 2, 8], [.one .ref, .one .ref, .one .ref], [], []⟩], L43_1 N⟩), (19, ⟨⟨.normal, [1, 8, 109, 110, 111], [.one .ref, .one .ref, .one .ref, .one (.int .i64), .one (.int .i64)], [], []⟩, [⟨(.exit 4), [8], [.one .ref], [], []⟩], L43_2 N⟩)], natTab [], inTab [3, 8, 15, 22]⟩
theorem l43_0 (N : Nat) : ∀ A, (e43 N).lp (lid (loopAt Tryz.f43 0)) = some A → LoopOk (e43 N) N (loopAt Tryz.f43 0) A :=
  loopOk_of (A := ⟨⟨.normal, [0, 1, 2, 8, 31, 32, 33], [.one .ref, .one .ref, .one .ref, .one .ref, .one .ref, .one (.int .i64), .one (.int .i64)], [], []⟩, [⟨(.exit 0), [0, 1, 2, 8], [.one .ref, .one .ref, .one .ref, .one .ref], [], []⟩], L43_0 N⟩) (by kernel_rfl) (fun _ => rfl) (fun _ _ => by kernel_rfl)
theorem l43_1 (N : Nat) : ∀ A, (e43 N).lp (lid (loopAt Tryz.f43 1)) = some A → LoopOk (e43 N) N (loopAt Tryz.f43 1) A :=
  loopOk_of (A := ⟨⟨.normal, [0, 1, 2, 8, 53, 54, 55], [.one .ref, .one .ref, .one .ref, .one .ref, .one .ref, .one (.int .i64), .one (.int .i64)], [], []⟩, [⟨(.exit 2), [1, 2, 8], [.one .ref, .one .ref, .one .ref], [], []⟩], L43_1 N⟩) (by kernel_rfl) (fun _ => rfl) (fun _ _ => by kernel_rfl)
theorem l43_2 (N : Nat) : ∀ A, (e43 N).lp (lid (loopAt Tryz.f43 2)) = some A → LoopOk (e43 N) N (loopAt Tryz.f43 2) A :=
  loopOk_of (A := ⟨⟨.normal, [1, 8, 109, 110, 111], [.one .ref, .one .ref, .one .ref, .one (.int .i64), .one (.int .i64)], [], []⟩, [⟨(.exit 4), [8], [.one .ref], [], []⟩], L43_2 N⟩) (by kernel_rfl) (fun _ => rfl) (fun _ _ => by kernel_rfl)
theorem fine43 (N : Nat) : Fine (e43 N) N 43 Tryz.f43 ks43 rs43 (F43 N) :=
  ⟨Tryz.func43, by kernel_rfl, by kernel_rfl, by kernel_rfl, loops_of ⟨l43_0 N, ⟨l43_1 N, ⟨l43_2 N, trivial⟩⟩⟩, by kernel_rfl, by kernel_rfl, fun _ => by kernel_rfl⟩
theorem good43 (N : Nat) : Go.L.Good (e43 N) := good_of ⟨gdg51 N, trivial⟩
theorem gd43 (N : Nat) : CalOk Tryz.prog 43 (.full (mkFun ks43 rs43 (F43 N))) := mkFun_good (fine43 N) (good43 N)

/-! ### 166: api.Term] -/
def L166_0 (N : Nat) : Nat → Int × Int × H → Option (H)
 | 0, _ => none
 | n + 1, (x5, x6, h7) =>
 (if (decide (x6 < x5)) = true then (
 none)
 else (
 some h7))
def F166 (N : Nat) : V × V × H → Option (Int × H)
 | (a0, a1, h) =>
 (slen a0).bind fun n1 =>
 (L166_0 N N (n1, 0, h)).bind fun h8 =>
 some ((-1), h8)
abbrev ks166 : List SK := [.one .ref, .one .ref]
abbrev rs166 : List SK := [.one (.int .i64)]
def e166 (N : Nat) : Env := ⟨Tryz.prog, 19, inTab [], inTab [], natTab [], inTab [], calTab [], altTab [], loopTab [(2, ⟨⟨.normal, [7, 8], [.one (.int .i64), .one (.int .i64)], [], []⟩, [⟨(.exit 0), [], [], [], []⟩], L166_0 N⟩)], natTab [], inTab [3, 4, 5, 6]⟩
theorem l166_0 (N : Nat) : ∀ A, (e166 N).lp (lid (loopAt Tryz.f166 0)) = some A → LoopOk (e166 N) N (loopAt Tryz.f166 0) A :=
  loopOk_of (A := ⟨⟨.normal, [7, 8], [.one (.int .i64), .one (.int .i64)], [], []⟩, [⟨(.exit 0), [], [], [], []⟩], L166_0 N⟩) (by kernel_rfl) (fun _ => rfl) (fun _ _ => by kernel_rfl)
theorem fine166 (N : Nat) : Fine (e166 N) N 166 Tryz.f166 ks166 rs166 (F166 N) :=
  ⟨Tryz.func166, by kernel_rfl, by kernel_rfl, by kernel_rfl, loops_of ⟨l166_0 N, trivial⟩, by kernel_rfl, by kernel_rfl, fun _ => by kernel_rfl⟩
theorem good166 (N : Nat) : Go.L.Good (e166 N) := good_of trivial
theorem gd166 (N : Nat) : CalOk Tryz.prog 166 (.ro (mkFun ks166 rs166 (F166 N))) := mkFun_ro (fine166 N) (good166 N) (by kernel_rfl)

/-! ### 131: api.Term] -/
def F131 (N : Nat) : V × V × H → Option (Bool × H)
 | (a0, a1, h) =>
 (F166 N (a0, a1, h)).bind fun (x1, _) =>
 some ((decide (x1 ≥ 0)), h)
abbrev ks131 : List SK := [.one .ref, .one .ref]
abbrev rs131 : List SK := [.one .bool]
def e131 (N : Nat) : Env := ⟨Tryz.prog, 9, inTab [], inTab [], natTab [], inTab [], calTab [(166, .ro (mkFun ks166 rs166 (F166 N)))], altTab [], loopTab [], natTab [], inTab []⟩
theorem fine131 (N : Nat) : Fine (e131 N) N 131 Tryz.f131 ks131 rs131 (F131 N) :=
  ⟨Tryz.func131, by kernel_rfl, by kernel_rfl, by kernel_rfl, loops_of trivial, by kernel_rfl, by kernel_rfl, fun _ => by kernel_rfl⟩
theorem good131 (N : Nat) : Go.L.Good (e131 N) := good_of ⟨gd166 N, trivial⟩
theorem gd131 (N : Nat) : CalOk Tryz.prog 131 (.ro (mkFun ks131 rs131 (F131 N))) := mkFun_ro (fine131 N) (good131 N) (by kernel_rfl)

/-! ### 95: frame.may -/
def F95 (N : Nat) : V × H → Option (Bool × H)
 | (a0, h) =>
 (F131 N (a0, (.fn 132 []), h)).bind fun (x1, _) =>
 some ((!x1), h)
abbrev ks95 : List SK := [.one .ref]
abbrev rs95 : List SK := [.one .bool]
def e95 (N : Nat) : Env := ⟨Tryz.prog, 6, inTab [], inTab [], natTab [], inTab [], calTab [(131, .ro (mkFun ks131 rs131 (F131 N)))], altTab [], loopTab [], natTab [], inTab []⟩
theorem fine95 (N : Nat) : Fine (e95 N) N 95 Tryz.f95 ks95 rs95 (F95 N) :=
  ⟨Tryz.func95, by kernel_rfl, by kernel_rfl, by kernel_rfl, loops_of trivial, by kernel_rfl, by kernel_rfl, fun _ => by kernel_rfl⟩
theorem good95 (N : Nat) : Go.L.Good (e95 N) := good_of ⟨gd131 N, trivial⟩
theorem gd95 (N : Nat) : CalOk Tryz.prog 95 (.ro (mkFun ks95 rs95 (F95 N))) := mkFun_ro (fine95 N) (good95 N) (by kernel_rfl)

/-! ### 96: frame.New -/
def F96 (N : Nat) : H → Option (V × H)
 | h =>
 (some (h ++ [O.cells 0 [(.bool true), .nils, .nils]]) : Option H).bind fun h1 =>
 some ((.ptr (h).length 0 0), h1)
abbrev ks96 : List SK := []
abbrev rs96 : List SK := [.one .ref]
def e96 (N : Nat) : Env := ⟨Tryz.prog, 3, inTab [], inTab [], natTab [], inTab [], calTab [], altTab [], loopTab [], natTab [], inTab []⟩
theorem fine96 (N : Nat) : Fine (e96 N) N 96 Tryz.f96 ks96 rs96 (F96 N) :=
  ⟨Tryz.func96, by kernel_rfl, by kernel_rfl, by kernel_rfl, loops_of trivial, by kernel_rfl, by kernel_rfl, fun _ => by kernel_rfl⟩
theorem good96 (N : Nat) : Go.L.Good (e96 N) := good_of trivial
theorem gdg96 (N : Nat) : CalOk Tryz.prog 96 (.gro (mkFun ks96 rs96 (F96 N))) := mkFun_groC (fine96 N) (good96 N) (by kernel_rfl)

/-! ### 97: frame.spot).ok -/
def F97 (N : Nat) : Int × Int × H → Option (Bool × H)
 | (a0_0, a0_1, h) =>
 (if (decide (a0_0 ≥ 0)) = true then (
 some ((decide (a0_0 < 64)), h))
 else (
 some (false, h))).bind fun (b1, h2) =>
 (if b1 = true then (
 some ((decide (a0_1 ≥ 0)), h2))
 else (
 some (false, h2))).bind fun (b3, h4) =>
 (if b3 = true then (
 some ((decide (a0_1 < 1024)), h4))
 else (
 some (false, h4))).bind fun (b5, h6) =>
 some (b5, h6)
abbrev ks97 : List SK := [.agg [(.int .i64), (.int .i64)]]
abbrev rs97 : List SK := [.one .bool]
def e97 (N : Nat) : Env := ⟨Tryz.prog, 21, inTab [1], inTab [], natTab [(1, 1), (3, 1), (7, 1), (12, 1), (17, 1)], inTab [], calTab [], altTab [], loopTab [], natTab [], inTab []⟩
theorem fine97 (N : Nat) : Fine (e97 N) N 97 Tryz.f97 ks97 rs97 (F97 N) :=
  ⟨Tryz.func97, by kernel_rfl, by kernel_rfl, by kernel_rfl, loops_of trivial, by kernel_rfl, by kernel_rfl, fun _ => by kernel_rfl⟩
theorem good97 (N : Nat) : Go.L.Good (e97 N) := good_of trivial
theorem gd97 : CalOk Tryz.prog 97 (.pure (mkP ks97 rs97 (F97 100))) := mkP_good (fine97 100) (good97 100) (by kernel_rfl) (by kernel_rfl)


end
end Go.Proofs.YtgipaccfnlklcaaGreatDoor
