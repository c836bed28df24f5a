/- The functions that the law reaches, as plain ones (printed by gen.py). -/
import Derived.Test.YtgipaccfnlklcaaGreatDoorh2
set_option linter.unusedVariables false
set_option maxRecDepth 100000
namespace Go.Proofs.YtgipaccfnlklcaaGreatDoor
noncomputable section
open Go.L

/-! ### 46: frame.Load -/
def L46_0 (N : Nat) : Nat → V × Int × V × Int × Int × V × V × H → Option (V × V × V × H)
 | 0, _ => none
 | n + 1, (x41, x42, x43, x44, x45, x46, x47, h48) =>
 (if (decide (x45 < x44)) = true then (
 (sidx x43 x45 4).bind fun q49 =>
 (L.asInt .i64 (rd h48 q49 0)).bind fun x50 =>
 (L.asInt .i64 (rd h48 q49 1)).bind fun x51 =>
 ((rd h48 q49 2)).bind fun x52 =>
 (L.asInt .i64 (rd h48 q49 3)).bind fun x53 =>
 (F62 N (x52, h48)).bind fun (x54, _) =>
 (ck1 x54).bind fun _ =>
 (F97 100 (x50, x51, [])).bind fun (x55, _) =>
 (if (!x55) = true then (
 some (true, h48))
 else (
 (slen x52).bind fun n58 =>
 some ((decide (n58 > 32)), h48))).bind fun (b56, h57) =>
 (if b56 = true then (
 some (true, h57))
 else (
 (F95 N (x52, h57)).bind fun (x61, _) =>
 some ((!x61), h57))).bind fun (b59, h60) =>
 (if b59 = true then (
 some (true, h60))
 else (
 some ((decide (x53 < x42)), h60))).bind fun (b62, h63) =>
 (if b62 = true then (
 some (true, h63))
 else (
 (slen x47).bind fun n66 =>
 some ((decide (x53 > n66)), h63))).bind fun (b64, h65) =>
 (if b64 = true then (
 none)
 else (
 (nck x41).bind fun _ =>
 ((rd h65 (padd x41 1) 0)).bind fun x67 =>
 (happ h65 x67 4 1 [(.int .i64 x50), (.int .i64 x51), x54, (.int .i64 x53)]).bind fun (v68, h69) =>
 (nck x41).bind fun _ =>
 (ck1 v68).bind fun _ =>
 (wr h69 (padd x41 1) [v68]).bind fun h70 =>
 L46_0 N n (x41, x53, x43, x44, (IntKind.i64.wrap (x45 + 1)), x46, x47, h70))))
 else (
 some (x41, x46, x47, h48)))
def F46 (N : Nat) : V × V × H → Option (V × Int × H)
 | (a0_0, a0_1, h) =>
 (slen a0_0).bind fun n1 =>
 (if (decide (n1 > 64)) = true then (
 some (true, h))
 else (
 (slen a0_1).bind fun n4 =>
 some ((decide (n4 > 256)), h))).bind fun (b2, h3) =>
 (if b2 = true then (
 some (true, h3))
 else (
 (F95 N (a0_1, h3)).bind fun (x7, _) =>
 some ((!x7), h3))).bind fun (b5, h6) =>
 (if b5 = true then (
 none)
 else (
 (F96 N h6).bind fun (x8, h9) =>
 (slen a0_0).bind fun n10 =>
 (L46_0 N N (x8, 0, a0_0, n10, 0, a0_0, a0_1, h9)).bind fun (x71, x72, x73, h74) =>
 (F62 N (x73, h74)).bind fun (x75, _) =>
 (nck x71).bind fun _ =>
 (ck1 x75).bind fun _ =>
 (wr h74 (padd x71 2) [x75]).bind fun h76 =>
 some (x71, 0, h76)))
abbrev ks46 : List SK := [.agg [.ref, .ref]]
abbrev rs46 : List SK := [.one .ref, .one (.int .i64)]
def e46 (N : Nat) : Env := ⟨Tryz.prog, 94, inTab [1, 7, 8, 82], inTab [], natTab [(1, 1), (7, 7), (8, 8), (9, 1), (14, 1), (20, 1), (26, 1), (33, 7), (35, 7), (38, 7), (41, 7), (44, 8), (49, 7), (55, 7), (61, 7), (67, 7), (69, 1), (74, 7), (88, 1)], inTab [], calTab [(95, .ro (mkFun ks95 rs95 (F95 N))), (96, .gro (mkFun ks96 rs96 (F96 N))), (62, .ro (mkFun ks62 rs62 (F62 N))), (97, .pure (mkP ks97 rs97 (F97 100)))], altTab [], loopTab [(6, ⟨⟨.normal, [1, 4, 5, 27, 28, 29], [.lp 1 0, .one .ref, .one (.int .i64), .one .ref, .one (.int .i64), .one (.int .i64)], [1], [.cells [.ref, .ref]]⟩, [⟨(.exit 0), [1, 4], [.lp 1 0, .one .ref], [1], [.cells [.ref, .ref]]⟩], L46_0 N⟩)], natTab [], inTab [2, 10]⟩
theorem l46_0 (N : Nat) : ∀ A, (e46 N).lp (lid (loopAt Tryz.f46 0)) = some A → LoopOk (e46 N) N (loopAt Tryz.f46 0) A :=
  loopOk_of (A := ⟨⟨.normal, [1, 4, 5, 27, 28, 29], [.lp 1 0, .one .ref, .one (.int .i64), .one .ref, .one (.int .i64), .one (.int .i64)], [1], [.cells [.ref, .ref]]⟩, [⟨(.exit 0), [1, 4], [.lp 1 0, .one .ref], [1], [.cells [.ref, .ref]]⟩], L46_0 N⟩) (by kernel_rfl) (fun _ => rfl) (fun _ _ => by kernel_rfl)
theorem fine46 (N : Nat) : Fine (e46 N) N 46 Tryz.f46 ks46 rs46 (F46 N) :=
  ⟨Tryz.func46, by kernel_rfl, by kernel_rfl, by kernel_rfl, loops_of ⟨l46_0 N, trivial⟩, by kernel_rfl, by kernel_rfl, fun _ => by kernel_rfl⟩
theorem good46 (N : Nat) : Go.L.Good (e46 N) := good_of ⟨gd95 N, ⟨gdg96 N, ⟨gd62 N, ⟨gd97, trivial⟩⟩⟩⟩
theorem gd46 (N : Nat) : CalOk Tryz.prog 46 (.full (mkFun ks46 rs46 (F46 N))) := mkFun_good (fine46 N) (good46 N)

/-! ### 92: node.viewed -/
def L92_0 (N : Nat) : Nat → V × Int × Int × ByteArray × V × H → Option (H)
 | 0, _ => none
 | n + 1, (x30, x31, x32, x33, x34, h35) =>
 (if (decide (x32 < x31)) = true then (
 (sidx x30 x32 4).bind fun q36 =>
 (L.asInt .i64 (rd h35 q36 0)).bind fun x37 =>
 (L.asInt .i64 (rd h35 q36 1)).bind fun x38 =>
 ((rd h35 q36 2)).bind fun x39 =>
 (L.asInt .i64 (rd h35 q36 3)).bind fun x40 =>
 (slen x34).bind fun n41 =>
 (if (decide (x37 ≥ n41)) = true then (
 some (true, h35))
 else (
 (sidx x34 x37 4).bind fun q44 =>
 ((rd h35 (padd q44 3) 0)).bind fun x45 =>
 (slen x45).bind fun n46 =>
 some ((decide (x38 ≥ n46)), h35))).bind fun (b42, h43) =>
 (if b42 = true then (
 some (true, h43))
 else (
 (slen x39).bind fun n49 =>
 (sidx x34 x37 4).bind fun q50 =>
 (L.asInt .i64 (rd h43 (padd q50 2) 0)).bind fun x51 =>
 some ((n49 != x51), h43))).bind fun (b47, h48) =>
 (if b47 = true then (
 none)
 else (
 L92_0 N n (x30, x31, (IntKind.i64.wrap (x32 + 1)), x33, x34, h48))))
 else (
 some h35))
def F92 (N : Nat) : ByteArray × V × V × V × H → Option (Bool × H)
 | (a0_0, a0_1, a1_0, a1_1, h) =>
 (F46 N (a1_0, a1_1, h)).bind fun (x1, x2, h3) =>
 (if (x2 != 0) = true then (
 some (true, h3))
 else (
 (slen a1_0).bind fun n6 =>
 some ((n6 == 0), h3))).bind fun (b4, h5) =>
 (if b4 = true then (
 none)
 else (
 (slen a1_0).bind fun n7 =>
 (L92_0 N N (a1_0, n7, 0, a0_0, a0_1, h5)).bind fun h52 =>
 some (true, h52)))
abbrev ks92 : List SK := [.agg [.str, .ref], .agg [.ref, .ref]]
abbrev rs92 : List SK := [.one .bool]
def e92 (N : Nat) : Env := ⟨Tryz.prog, 62, inTab [2, 3, 8], inTab [], natTab [(2, 2), (3, 3), (8, 8), (17, 3), (22, 3), (29, 8), (31, 2), (36, 8), (38, 2), (40, 8), (49, 8), (52, 2), (54, 8)], inTab [], calTab [(46, .full (mkFun ks46 rs46 (F46 N)))], altTab [], loopTab [(5, ⟨⟨.normal, [2, 23, 24, 25], [.lp 2 0, .one .ref, .one (.int .i64), .one (.int .i64)], [2], [.cells [.str, .ref]]⟩, [⟨(.exit 0), [], [], [], []⟩], L92_0 N⟩)], natTab [], inTab [3, 8]⟩
theorem l92_0 (N : Nat) : ∀ A, (e92 N).lp (lid (loopAt Tryz.f92 0)) = some A → LoopOk (e92 N) N (loopAt Tryz.f92 0) A :=
  loopOk_of (A := ⟨⟨.normal, [2, 23, 24, 25], [.lp 2 0, .one .ref, .one (.int .i64), .one (.int .i64)], [2], [.cells [.str, .ref]]⟩, [⟨(.exit 0), [], [], [], []⟩], L92_0 N⟩) (by kernel_rfl) (fun _ => rfl) (fun _ _ => by kernel_rfl)
theorem fine92 (N : Nat) : Fine (e92 N) N 92 Tryz.f92 ks92 rs92 (F92 N) :=
  ⟨Tryz.func92, by kernel_rfl, by kernel_rfl, by kernel_rfl, loops_of ⟨l92_0 N, trivial⟩, by kernel_rfl, by kernel_rfl, fun _ => by kernel_rfl⟩
theorem good92 (N : Nat) : Go.L.Good (e92 N) := good_of ⟨gd46 N, trivial⟩
theorem gd92 (N : Nat) : CalOk Tryz.prog 92 (.full (mkFun ks92 rs92 (F92 N))) := mkFun_good (fine92 N) (good92 N)

/-! ### 98: box.New -/
def F98 (N : Nat) : H → Option (V × H)
 | h =>
 (some (h ++ [O.cells 0 [(.bool true), .nils, .nils, (.int .i64 0), (.int .i64 0)]]) : Option H).bind fun h1 =>
 some ((.ptr (h).length 0 0), h1)
abbrev ks98 : List SK := []
abbrev rs98 : List SK := [.one .ref]
def e98 (N : Nat) : Env := ⟨Tryz.prog, 3, inTab [], inTab [], natTab [], inTab [], calTab [], altTab [], loopTab [], natTab [], inTab []⟩
theorem fine98 (N : Nat) : Fine (e98 N) N 98 Tryz.f98 ks98 rs98 (F98 N) :=
  ⟨Tryz.func98, by kernel_rfl, by kernel_rfl, by kernel_rfl, loops_of trivial, by kernel_rfl, by kernel_rfl, fun _ => by kernel_rfl⟩
theorem good98 (N : Nat) : Go.L.Good (e98 N) := good_of trivial
theorem gdg98 (N : Nat) : CalOk Tryz.prog 98 (.gro (mkFun ks98 rs98 (F98 N))) := mkFun_groC (fine98 N) (good98 N) (by kernel_rfl)

/-! ### 47: box.Load -/
def L47_1 (N : Nat) : Nat → V × Int × V × List V × Int × Int × Int × List V × H → Option (V × Int × V × List V × Int × List V × H)
 | 0, _ => none
 | n + 1, (x23, x24, x25, cs26, x27, x28, x29, cs30, h31) =>
 (if (decide (x29 < x28)) = true then (
 none)
 else (
 some (x23, x24, x25, cs26, x27, cs30, h31)))
def L47_0 (N : Nat) : Nat → V × List V × Int × List V × H → Option (V × List V × H)
 | 0, _ => none
 | n + 1, (x42, cs43, x44, cs45, h46) =>
 (if (decide (x44 < 2)) = true then (
 (if 0 ≤ x44 then (if x44 < 2 then (
 ((cs43)[Int.toNat x44 * 1]?).bind fun x47 =>
 (slen x47).bind fun n48 =>
 (L47_1 N N (x42, x44, x47, cs43, x44, n48, 0, cs45, h46)).bind fun (x49, x50, x51, cs52, x53, cs54, h55) =>
 (F62 N (x51, h55)).bind fun (x56, _) =>
 (nck x49).bind fun _ =>
 (aidx (padd x49 1) x50 2 1).bind fun q57 =>
 (ck1 x56).bind fun _ =>
 (wr h55 q57 [x56]).bind fun h58 =>
 L47_0 N n (x49, cs52, (IntKind.i64.wrap (x53 + 1)), cs54, h58)) else none) else none))
 else (
 some (x42, cs45, h46)))
def L47_2 (N : Nat) : Nat → V × Int × List V × H → Option (V × List V × H)
 | 0, _ => none
 | n + 1, (x73, x74, cs75, h76) =>
 (if (decide (x74 < 2)) = true then (
 (if 0 ≤ x74 then (if x74 < 2 then (
 (L.asInt .i64 cs75[((0 + Int.toNat x74 * 1) + 0)]?).bind fun x77 =>
 (if (decide (x77 < 0)) = true then (
 some (true, h76))
 else (
 (if 0 ≤ x74 then (if x74 < 2 then (
 (L.asInt .i64 cs75[((0 + Int.toNat x74 * 1) + 0)]?).bind fun x80 =>
 (nck x73).bind fun _ =>
 (aidx (padd x73 1) x74 2 1).bind fun q81 =>
 ((rd h76 q81 0)).bind fun x82 =>
 (slen x82).bind fun n83 =>
 some ((decide (x80 > n83)), h76)) else none) else none))).bind fun (b78, h79) =>
 (if b78 = true then (
 none)
 else (
 L47_2 N n (x73, (IntKind.i64.wrap (x74 + 1)), cs75, h79)))) else none) else none))
 else (
 some (x73, cs75, h76)))
def F47 (N : Nat) : V × V × List V × H → Option (V × Int × H)
 | (a0, a1, a2, h) =>
 (if (a2).length = 2 then (
 (slen a0).bind fun n1 =>
 (if (decide (n1 > 256)) = true then (
 some (true, h))
 else (
 (slen a1).bind fun n4 =>
 some ((decide (n4 > 256)), h))).bind fun (b2, h3) =>
 (if b2 = true then (
 none)
 else (
 (F98 N h3).bind fun (x5, h6) =>
 (ck1 a0).bind fun _ =>
 (ck1 a1).bind fun _ =>
 (L47_0 N N (x5, [a0, a1], 0, a2, h6)).bind fun (x59, cs60, h61) =>
 (L47_2 N N (x59, 0, cs60, h61)).bind fun (x84, cs85, h86) =>
 ((if 0 + 2 ≤ (cs85).length then some (((cs85).drop 0).take 2) else none) : Option (List V)).bind fun cs87 =>
 (nck x84).bind fun _ =>
 (if (cs87).length = 2 then (
 (wr h86 (padd x84 3) cs87).bind fun h88 =>
 some (x84, 0, h88)) else none)))) else none)
abbrev ks47 : List SK := [.one .ref, .one .ref, .blk]
abbrev rs47 : List SK := [.one .ref, .one (.int .i64)]
def e47 (N : Nat) : Env := ⟨Tryz.prog, 77, inTab [5, 12], inTab [], natTab [(5, 5), (12, 12), (55, 5), (60, 5)], inTab [], calTab [(98, .gro (mkFun ks98 rs98 (F98 N))), (62, .ro (mkFun ks62 rs62 (F62 N)))], altTab [], loopTab [(5, ⟨⟨.normal, [5, 8, 26, 27], [.lp 5 0, .one .ref, .blk, .one (.int .i64)], [5], [.blk]⟩, [⟨(.exit 0), [5, 8], [.lp 5 0, .one .ref], [5], [.blk]⟩], L47_0 N⟩), (8, ⟨⟨.normal, [5, 8, 9, 10, 26, 27, 32, 33], [.lp 5 0, .one .ref, .one (.int .i64), .one .ref, .blk, .one (.int .i64), .one (.int .i64), .one (.int .i64)], [5], [.blk]⟩, [⟨(.exit 2), [5, 8, 9, 10, 26, 27], [.lp 5 0, .one .ref, .one (.int .i64), .one .ref, .blk, .one (.int .i64)], [5], [.blk]⟩], L47_1 N⟩), (17, ⟨⟨.normal, [5, 8, 51], [.lp 5 0, .one .ref, .one (.int .i64)], [5], [.blk]⟩, [⟨(.exit 4), [5, 8], [.lp 5 0, .one .ref], [5], [.blk]⟩], L47_2 N⟩)], natTab [], inTab [2, 9, 10, 11, 12, 13, 20]⟩
theorem l47_0 (N : Nat) : ∀ A, (e47 N).lp (lid (loopAt Tryz.f47 0)) = some A → LoopOk (e47 N) N (loopAt Tryz.f47 0) A :=
  loopOk_of (A := ⟨⟨.normal, [5, 8, 26, 27], [.lp 5 0, .one .ref, .blk, .one (.int .i64)], [5], [.blk]⟩, [⟨(.exit 0), [5, 8], [.lp 5 0, .one .ref], [5], [.blk]⟩], L47_0 N⟩) (by kernel_rfl) (fun _ => rfl) (fun _ _ => by kernel_rfl)
theorem l47_1 (N : Nat) : ∀ A, (e47 N).lp (lid (loopAt Tryz.f47 1)) = some A → LoopOk (e47 N) N (loopAt Tryz.f47 1) A :=
  loopOk_of (A := ⟨⟨.normal, [5, 8, 9, 10, 26, 27, 32, 33], [.lp 5 0, .one .ref, .one (.int .i64), .one .ref, .blk, .one (.int .i64), .one (.int .i64), .one (.int .i64)], [5], [.blk]⟩, [⟨(.exit 2), [5, 8, 9, 10, 26, 27], [.lp 5 0, .one .ref, .one (.int .i64), .one .ref, .blk, .one (.int .i64)], [5], [.blk]⟩], L47_1 N⟩) (by kernel_rfl) (fun _ => rfl) (fun _ _ => by kernel_rfl)
theorem l47_2 (N : Nat) : ∀ A, (e47 N).lp (lid (loopAt Tryz.f47 2)) = some A → LoopOk (e47 N) N (loopAt Tryz.f47 2) A :=
  loopOk_of (A := ⟨⟨.normal, [5, 8, 51], [.lp 5 0, .one .ref, .one (.int .i64)], [5], [.blk]⟩, [⟨(.exit 4), [5, 8], [.lp 5 0, .one .ref], [5], [.blk]⟩], L47_2 N⟩) (by kernel_rfl) (fun _ => rfl) (fun _ _ => by kernel_rfl)
theorem fine47 (N : Nat) : Fine (e47 N) N 47 Tryz.f47 ks47 rs47 (F47 N) :=
  ⟨Tryz.func47, by kernel_rfl, by kernel_rfl, by kernel_rfl, loops_of ⟨l47_0 N, ⟨l47_1 N, ⟨l47_2 N, trivial⟩⟩⟩, by kernel_rfl, by kernel_rfl, fun _ => by kernel_rfl⟩
theorem good47 (N : Nat) : Go.L.Good (e47 N) := good_of ⟨gdg98 N, ⟨gd62 N, trivial⟩⟩
theorem gd47 (N : Nat) : CalOk Tryz.prog 47 (.full (mkFun ks47 rs47 (F47 N))) := mkFun_good (fine47 N) (good47 N)

/-! ### 93: node.stood -/
def L93_2 (N : Nat) : Nat → Int × Int × Int × Bool × Int × Int × Int × Int × Int × V × Int × Int × V × V × V × V × V × V × V × V × V × V × Int × Int × V × Int × Int × H → Option (Int × Int × Int × Bool × Int × Int × Int × Int × V × V × V × V × V × V × V × V × V × V × Int × Int × V × Int × Int × H)
 | 0, _ => none
 | n + 1, (x112, x113, x114, x115, x116, x117, x118, x119, x120, x121, x122, x123, x124, x125, x126, x127, x128, x129, x130, x131, x132, x133, x134, x135, x136, x137, x138, h139) =>
 (if (decide (x123 < x122)) = true then (
 (sidx x121 x123 3).bind fun q140 =>
 (L.asInt .i64 (rd h139 q140 0)).bind fun x141 =>
 (L.asInt .i64 (rd h139 q140 1)).bind fun x142 =>
 (L.asBool (rd h139 q140 2)).bind fun x143 =>
 ((if ((x141 == x137) && ((x142 == x138) && true)) = true then (
 some ((IntKind.i64.wrap (x112 + 1)), x116, x117, x143, x116, x117, x118, x119, x120, x121, x122, x123, x124, x125, x126, x127, x128, x129, x130, x131, x132, x133, x134, x135, x136, x137, x138, h139))
 else (
 some (x112, x113, x114, x115, x116, x117, x118, x119, x120, x121, x122, x123, x124, x125, x126, x127, x128, x129, x130, x131, x132, x133, x134, x135, x136, x137, x138, h139))) : Option (Int × Int × Int × Bool × Int × Int × Int × Int × Int × V × Int × Int × V × V × V × V × V × V × V × V × V × V × Int × Int × V × Int × Int × H)).bind fun (x144, x145, x146, x147, x148, x149, x150, x151, x152, x153, x154, x155, x156, x157, x158, x159, x160, x161, x162, x163, x164, x165, x166, x167, x168, x169, x170, h171) =>
 L93_2 N n (x144, x145, x146, x147, x148, x149, x150, x151, x152, x153, x154, (IntKind.i64.wrap (x155 + 1)), x156, x157, x158, x159, x160, x161, x162, x163, x164, x165, x166, x167, x168, x169, x170, h171))
 else (
 some (x112, x113, x114, x115, x116, x118, x119, x120, x124, x125, x126, x127, x128, x129, x130, x131, x132, x133, x134, x135, x136, x137, x138, h139)))
def L93_1 (N : Nat) : Nat → Int × Int × Int × Bool × Int × Int × Int × Int × V × V × V × V × V × V × V × V × V × V × Int × Int × V × Int × Int × H → Option (Int × Int × Int × Bool × Int × Int × V × V × V × V × V × V × V × V × V × V × Int × Int × V × Int × Int × H)
 | 0, _ => none
 | n + 1, (x196, x197, x198, x199, x200, x201, x202, x203, x204, x205, x206, x207, x208, x209, x210, x211, x212, x213, x214, x215, x216, x217, x218, h219) =>
 (if (decide (x203 < 3)) = true then (
 (sidx x208 x200 3).bind fun q220 =>
 (aidx q220 x203 3 1).bind fun q221 =>
 ((rd h219 q221 0)).bind fun x222 =>
 (slen x222).bind fun n223 =>
 (L93_2 N N (x196, x197, x198, x199, x200, x203, x201, x202, x203, x222, n223, 0, x204, x205, x206, x207, x208, x209, x210, x211, x212, x213, x214, x215, x216, x217, x218, h219)).bind fun (x224, x225, x226, x227, x228, x229, x230, x231, x232, x233, x234, x235, x236, x237, x238, x239, x240, x241, x242, x243, x244, x245, x246, h247) =>
 L93_1 N n (x224, x225, x226, x227, x228, x229, x230, (IntKind.i64.wrap (x231 + 1)), x232, x233, x234, x235, x236, x237, x238, x239, x240, x241, x242, x243, x244, x245, x246, h247))
 else (
 some (x196, x197, x198, x199, x201, x202, x204, x205, x206, x207, x208, x209, x210, x211, x212, x213, x214, x215, x216, x217, x218, h219)))
def L93_0 (N : Nat) : Nat → Int × Int × Int × Bool × Int × Int × V × V × V × V × V × V × V × V × V × V × Int × Int × V × Int × Int × H → Option (Int × Int × Int × Bool × H)
 | 0, _ => none
 | n + 1, (x270, x271, x272, x273, x274, x275, x276, x277, x278, x279, x280, x281, x282, x283, x284, x285, x286, x287, x288, x289, x290, h291) =>
 (if (decide (x275 < x274)) = true then (
 (L93_1 N N (x270, x271, x272, x273, x275, x274, x275, 0, x276, x277, x278, x279, x280, x281, x282, x283, x284, x285, x286, x287, x288, x289, x290, h291)).bind fun (x292, x293, x294, x295, x296, x297, x298, x299, x300, x301, x302, x303, x304, x305, x306, x307, x308, x309, x310, x311, x312, h313) =>
 L93_0 N n (x292, x293, x294, x295, x296, (IntKind.i64.wrap (x297 + 1)), x298, x299, x300, x301, x302, x303, x304, x305, x306, x307, x308, x309, x310, x311, x312, h313))
 else (
 some (x270, x271, x272, x273, h291)))
def F93 (N : Nat) : V × V × V × V × V × V × V × V × V × V × Int × Int × V × Int × Int × H → Option (Int × Int × Int × Bool × H)
 | (a0_0, a0_1, a0_2, a0_3, a0_4, a0_5, a0_6, a0_7, a0_8, a0_9, a0_10, a0_11, a0_12, a1_0, a1_1, h) =>
 (slen a0_4).bind fun n1 =>
 (L93_0 N N (0, 0, 0, false, n1, 0, a0_0, a0_1, a0_2, a0_3, a0_4, a0_5, a0_6, a0_7, a0_8, a0_9, a0_10, a0_11, a0_12, a1_0, a1_1, h)).bind fun (x314, x315, x316, x317, h318) =>
 some (x314, x315, x316, x317, h318)
abbrev ks93 : List SK := [.agg [.ref, .ref, .ref, .ref, .ref, .ref, .ref, .ref, .ref, .ref, (.int .i64), (.int .i64), .ref], .agg [(.int .i64), (.int .i64)]]
abbrev rs93 : List SK := [.one (.int .i64), .one (.int .i64), .one (.int .i64), .one .bool]
def e93 (N : Nat) : Env := ⟨Tryz.prog, 50, inTab [2, 3, 11], inTab [], natTab [(2, 2), (3, 3), (11, 11), (12, 2), (21, 2), (33, 11), (41, 11)], inTab [], calTab [], altTab [(720932, [⟨.normal, [2, 3, 4, 5, 6, 7, 8, 9, 14, 15, 18, 27, 28, 29], [.lp 2 0, .lp 3 0, .one (.int .i64), .one (.int .i64), .one (.int .i64), .one .bool, .one (.int .i64), .one (.int .i64), .one (.int .i64), .one (.int .i64), .one (.int .i64), .one .ref, .one (.int .i64), .one (.int .i64)], [2, 3], [.cells [.ref, .ref, .ref, .ref, .ref, .ref, .ref, .ref, .ref, .ref, (.int .i64), (.int .i64), .ref], .cells [(.int .i64), (.int .i64)]]⟩])], loopTab [(2, ⟨⟨.normal, [2, 3, 4, 5, 6, 7, 14, 15], [.lp 2 0, .lp 3 0, .one (.int .i64), .one (.int .i64), .one (.int .i64), .one .bool, .one (.int .i64), .one (.int .i64)], [2, 3], [.cells [.ref, .ref, .ref, .ref, .ref, .ref, .ref, .ref, .ref, .ref, (.int .i64), (.int .i64), .ref], .cells [(.int .i64), (.int .i64)]]⟩, [⟨(.exit 0), [4, 5, 6, 7], [.one (.int .i64), .one (.int .i64), .one (.int .i64), .one .bool], [], []⟩], L93_0 N⟩), (5, ⟨⟨.normal, [2, 3, 4, 5, 6, 7, 8, 14, 15, 18], [.lp 2 0, .lp 3 0, .one (.int .i64), .one (.int .i64), .one (.int .i64), .one .bool, .one (.int .i64), .one (.int .i64), .one (.int .i64), .one (.int .i64)], [2, 3], [.cells [.ref, .ref, .ref, .ref, .ref, .ref, .ref, .ref, .ref, .ref, (.int .i64), (.int .i64), .ref], .cells [(.int .i64), (.int .i64)]]⟩, [⟨(.exit 2), [2, 3, 4, 5, 6, 7, 14, 15], [.lp 2 0, .lp 3 0, .one (.int .i64), .one (.int .i64), .one (.int .i64), .one .bool, .one (.int .i64), .one (.int .i64)], [2, 3], [.cells [.ref, .ref, .ref, .ref, .ref, .ref, .ref, .ref, .ref, .ref, (.int .i64), (.int .i64), .ref], .cells [(.int .i64), (.int .i64)]]⟩], L93_1 N⟩), (8, ⟨⟨.normal, [2, 3, 4, 5, 6, 7, 8, 9, 14, 15, 18, 27, 28, 29], [.lp 2 0, .lp 3 0, .one (.int .i64), .one (.int .i64), .one (.int .i64), .one .bool, .one (.int .i64), .one (.int .i64), .one (.int .i64), .one (.int .i64), .one (.int .i64), .one .ref, .one (.int .i64), .one (.int .i64)], [2, 3], [.cells [.ref, .ref, .ref, .ref, .ref, .ref, .ref, .ref, .ref, .ref, (.int .i64), (.int .i64), .ref], .cells [(.int .i64), (.int .i64)]]⟩, [⟨(.exit 4), [2, 3, 4, 5, 6, 7, 8, 14, 15, 18], [.lp 2 0, .lp 3 0, .one (.int .i64), .one (.int .i64), .one (.int .i64), .one .bool, .one (.int .i64), .one (.int .i64), .one (.int .i64), .one (.int .i64)], [2, 3], [.cells [.ref, .ref, .ref, .ref, .ref, .ref, .ref, .ref, .ref, .ref, (.int .i64), (.int .i64), .ref], .cells [(.int .i64), (.int .i64)]]⟩], L93_2 N⟩)], natTab [], inTab []⟩
theorem l93_0 (N : Nat) : ∀ A, (e93 N).lp (lid (loopAt Tryz.f93 0)) = some A → LoopOk (e93 N) N (loopAt Tryz.f93 0) A :=
  loopOk_of (A := ⟨⟨.normal, [2, 3, 4, 5, 6, 7, 14, 15], [.lp 2 0, .lp 3 0, .one (.int .i64), .one (.int .i64), .one (.int .i64), .one .bool, .one (.int .i64), .one (.int .i64)], [2, 3], [.cells [.ref, .ref, .ref, .ref, .ref, .ref, .ref, .ref, .ref, .ref, (.int .i64), (.int .i64), .ref], .cells [(.int .i64), (.int .i64)]]⟩, [⟨(.exit 0), [4, 5, 6, 7], [.one (.int .i64), .one (.int .i64), .one (.int .i64), .one .bool], [], []⟩], L93_0 N⟩) (by kernel_rfl) (fun _ => rfl) (fun _ _ => by kernel_rfl)
theorem l93_1 (N : Nat) : ∀ A, (e93 N).lp (lid (loopAt Tryz.f93 1)) = some A → LoopOk (e93 N) N (loopAt Tryz.f93 1) A :=
  loopOk_of (A := ⟨⟨.normal, [2, 3, 4, 5, 6, 7, 8, 14, 15, 18], [.lp 2 0, .lp 3 0, .one (.int .i64), .one (.int .i64), .one (.int .i64), .one .bool, .one (.int .i64), .one (.int .i64), .one (.int .i64), .one (.int .i64)], [2, 3], [.cells [.ref, .ref, .ref, .ref, .ref, .ref, .ref, .ref, .ref, .ref, (.int .i64), (.int .i64), .ref], .cells [(.int .i64), (.int .i64)]]⟩, [⟨(.exit 2), [2, 3, 4, 5, 6, 7, 14, 15], [.lp 2 0, .lp 3 0, .one (.int .i64), .one (.int .i64), .one (.int .i64), .one .bool, .one (.int .i64), .one (.int .i64)], [2, 3], [.cells [.ref, .ref, .ref, .ref, .ref, .ref, .ref, .ref, .ref, .ref, (.int .i64), (.int .i64), .ref], .cells [(.int .i64), (.int .i64)]]⟩], L93_1 N⟩) (by kernel_rfl) (fun _ => rfl) (fun _ _ => by kernel_rfl)
theorem l93_2 (N : Nat) : ∀ A, (e93 N).lp (lid (loopAt Tryz.f93 2)) = some A → LoopOk (e93 N) N (loopAt Tryz.f93 2) A :=
  loopOk_of (A := ⟨⟨.normal, [2, 3, 4, 5, 6, 7, 8, 9, 14, 15, 18, 27, 28, 29], [.lp 2 0, .lp 3 0, .one (.int .i64), .one (.int .i64), .one (.int .i64), .one .bool, .one (.int .i64), .one (.int .i64), .one (.int .i64), .one (.int .i64), .one (.int .i64), .one .ref, .one (.int .i64), .one (.int .i64)], [2, 3], [.cells [.ref, .ref, .ref, .ref, .ref, .ref, .ref, .ref, .ref, .ref, (.int .i64), (.int .i64), .ref], .cells [(.int .i64), (.int .i64)]]⟩, [⟨(.exit 4), [2, 3, 4, 5, 6, 7, 8, 14, 15, 18], [.lp 2 0, .lp 3 0, .one (.int .i64), .one (.int .i64), .one (.int .i64), .one .bool, .one (.int .i64), .one (.int .i64), .one (.int .i64), .one (.int .i64)], [2, 3], [.cells [.ref, .ref, .ref, .ref, .ref, .ref, .ref, .ref, .ref, .ref, (.int .i64), (.int .i64), .ref], .cells [(.int .i64), (.int .i64)]]⟩], L93_2 N⟩) (by kernel_rfl) (fun _ => rfl) (fun _ _ => by kernel_rfl)
theorem fine93 (N : Nat) : Fine (e93 N) N 93 Tryz.f93 ks93 rs93 (F93 N) :=
  ⟨Tryz.func93, by kernel_rfl, by kernel_rfl, by kernel_rfl, loops_of ⟨l93_0 N, ⟨l93_1 N, ⟨l93_2 N, trivial⟩⟩⟩, by kernel_rfl, by kernel_rfl, fun _ => by kernel_rfl⟩
theorem good93 (N : Nat) : Go.L.Good (e93 N) := good_of trivial
theorem gd93 (N : Nat) : CalOk Tryz.prog 93 (.ro (mkFun ks93 rs93 (F93 N))) := mkFun_ro (fine93 N) (good93 N) (by kernel_rfl)

/-! ### 44: node.bodied -/
def F44 (N : Nat) : V × V × V × V × V × V × V × V × V × V × Int × Int × V × List V × H → Option (Bool × H)
 | (a0_0, a0_1, a0_2, a0_3, a0_4, a0_5, a0_6, a0_7, a0_8, a0_9, a0_10, a0_11, a0_12, a1, h) =>
 (if (a1).length = 19 then (
 (L.asInt .i64 a1[0]?).bind fun x1 =>
 (L.asInt .i64 a1[1]?).bind fun x2 =>
 (L.asStr a1[2]?).bind fun x3 =>
 (L.asInt .i64 a1[3]?).bind fun x4 =>
 (L.asInt .i64 a1[4]?).bind fun x5 =>
 (L.asInt .i64 a1[5]?).bind fun x6 =>
 (L.asInt .i64 a1[6]?).bind fun x7 =>
 (L.asBool a1[7]?).bind fun x8 =>
 (L.asBool a1[8]?).bind fun x9 =>
 (L.asInt .i64 a1[9]?).bind fun x10 =>
 (L.asInt .i64 a1[10]?).bind fun x11 =>
 (L.asInt .i64 a1[11]?).bind fun x12 =>
 (a1[12]?).bind fun x13 =>
 (a1[13]?).bind fun x14 =>
 (slen a0_4).bind fun n15 =>
 (F87 100 (x5, 0, (IntKind.i64.wrap (n15 - 1)), [])).bind fun (x16, _) =>
 (if (!x16) = true then (
 some (true, h))
 else (
 (F87 100 (x6, 0, 2, [])).bind fun (x19, _) =>
 some ((!x19), h))).bind fun (b17, h18) =>
 (if b17 = true then (
 some (true, h18))
 else (
 (slen a0_1).bind fun n22 =>
 (F87 100 (x7, 0, (IntKind.i64.wrap (n22 - 1)), [])).bind fun (x23, _) =>
 some ((!x23), h18))).bind fun (b20, h21) =>
 (if b20 = true then (
 some (true, h21))
 else (
 (F87 100 (x4, 1, 3, [])).bind fun (x26, _) =>
 some ((!x26), h21))).bind fun (b24, h25) =>
 (if b24 = true then (
 some (true, h25))
 else (
 (F87 100 (x10, 0, 4611686018427387903, [])).bind fun (x29, _) =>
 some ((!x29), h25))).bind fun (b27, h28) =>
 (if b27 = true then (
 some (true, h28))
 else (
 (L.asInt .i64 a1[18]?).bind fun x32 =>
 (F87 100 (x32, (-1), 4611686018427387903, [])).bind fun (x33, _) =>
 some ((!x33), h28))).bind fun (b30, h31) =>
 (if b30 = true then (
 none)
 else (
 (a1[14]?).bind fun x34 =>
 (slen x34).bind fun n35 =>
 (if (x11 != n35) = true then (
 some (true, h31))
 else (
 (a1[15]?).bind fun x38 =>
 (slen x38).bind fun n39 =>
 some ((x12 != n39), h31))).bind fun (b36, h37) =>
 (if b36 = true then (
 some (true, h37))
 else (
 (sidx a0_1 x7 2).bind fun q42 =>
 (L.asStr (rd h37 q42 0)).bind fun x43 =>
 ((rd h37 q42 1)).bind fun x44 =>
 (F92 N (x43, x44, x13, x14, h37)).bind fun (x45, h46) =>
 some ((!x45), h46))).bind fun (b40, h41) =>
 (if b40 = true then (
 none)
 else (
 (a1[14]?).bind fun x47 =>
 (a1[15]?).bind fun x48 =>
 ((if 16 + 2 ≤ (a1).length then some (((a1).drop 16).take 2) else none) : Option (List V)).bind fun cs49 =>
 (F47 N (x47, x48, cs49, h41)).bind fun (x50, x51, h52) =>
 (if (x51 != 0) = true then (
 none)
 else (
 (F93 N (a0_0, a0_1, a0_2, a0_3, a0_4, a0_5, a0_6, a0_7, a0_8, a0_9, a0_10, a0_11, a0_12, x1, x2, h52)).bind fun (x53, x54, x55, x56, _) =>
 (if (x4 != 1) = true then (
 none)
 else (
 (if (x53 == 1) = true then (
 some ((x54 == x5), h52))
 else (
 some (false, h52))).bind fun (b57, h58) =>
 (if b57 = true then (
 some ((x55 == x6), h58))
 else (
 some (false, h58))).bind fun (b59, h60) =>
 (if b59 = true then (
 some ((x56 == x9), h60))
 else (
 some (false, h60))).bind fun (b61, h62) =>
 some (b61, h62)))))))))) else none)
abbrev ks44 : List SK := [.agg [.ref, .ref, .ref, .ref, .ref, .ref, .ref, .ref, .ref, .ref, (.int .i64), (.int .i64), .ref], .blk]
abbrev rs44 : List SK := [.one .bool]
def e44 (N : Nat) : Env := ⟨Tryz.prog, 133, inTab [2, 3, 5], inTab [], natTab [(2, 2), (3, 3), (5, 5), (12, 3), (14, 5), (16, 2), (23, 5), (29, 5), (31, 2), (39, 5), (45, 5), (51, 3), (56, 5), (58, 3), (63, 5), (65, 3), (71, 2), (73, 5), (77, 5), (83, 3), (85, 3), (87, 3), (96, 5), (103, 5), (109, 5), (117, 5), (123, 5), (129, 5)], inTab [], calTab [(87, .pure (mkP ks87 rs87 (F87 100))), (92, .full (mkFun ks92 rs92 (F92 N))), (47, .full (mkFun ks47 rs47 (F47 N))), (93, .ro (mkFun ks93 rs93 (F93 N)))], altTab [], loopTab [], natTab [], inTab [3, 5, 8, 11]⟩
theorem fine44 (N : Nat) : Fine (e44 N) N 44 Tryz.f44 ks44 rs44 (F44 N) :=
  ⟨Tryz.func44, by kernel_rfl, by kernel_rfl, by kernel_rfl, loops_of trivial, by kernel_rfl, by kernel_rfl, fun _ => by kernel_rfl⟩
theorem good44 (N : Nat) : Go.L.Good (e44 N) := good_of ⟨gd87, ⟨gd92 N, ⟨gd47 N, ⟨gd93 N, trivial⟩⟩⟩⟩
theorem gd44 (N : Nat) : CalOk Tryz.prog 44 (.full (mkFun ks44 rs44 (F44 N))) := mkFun_good (fine44 N) (good44 N)

/-! ### 94: homes.Accounts).has -/
def F94 (N : Nat) : V × Int × Int × H → Option (Bool × H)
 | (a0, a1, a2, h) =>
 (isNil a0).bind fun b1 =>
 (if (!b1) = true then (
 some ((decide (a1 ≥ 0)), h))
 else (
 some (false, h))).bind fun (b2, h3) =>
 (if b2 = true then (
 (nck a0).bind fun _ =>
 (L.asInt .i64 (rd h3 (padd a0 0) 0)).bind fun x6 =>
 some ((decide (a1 < x6)), h3))
 else (
 some (false, h3))).bind fun (b4, h5) =>
 (if b4 = true then (
 some ((decide (a2 ≥ 0)), h5))
 else (
 some (false, h5))).bind fun (b7, h8) =>
 (if b7 = true then (
 some ((decide (a2 < 3)), h8))
 else (
 some (false, h8))).bind fun (b9, h10) =>
 some (b9, h10)
abbrev ks94 : List SK := [.one .ref, .one (.int .i64), .one (.int .i64)]
abbrev rs94 : List SK := [.one .bool]
def e94 (N : Nat) : Env := ⟨Tryz.prog, 29, inTab [], inTab [], natTab [], inTab [], calTab [], altTab [], loopTab [], natTab [], inTab []⟩
theorem fine94 (N : Nat) : Fine (e94 N) N 94 Tryz.f94 ks94 rs94 (F94 N) :=
  ⟨Tryz.func94, by kernel_rfl, by kernel_rfl, by kernel_rfl, loops_of trivial, by kernel_rfl, by kernel_rfl, fun _ => by kernel_rfl⟩
theorem good94 (N : Nat) : Go.L.Good (e94 N) := good_of trivial
theorem gd94 (N : Nat) : CalOk Tryz.prog 94 (.ro (mkFun ks94 rs94 (F94 N))) := mkFun_ro (fine94 N) (good94 N) (by kernel_rfl)

/-! ### 45: homes.Accounts).Take -/
def F45 (N : Nat) : V × Int × Int × H → Option (Int × H)
 | (a0, a1, a2, h) =>
 (F94 N (a0, a1, a2, h)).bind fun (x1, _) =>
 (if (!x1) = true then (
 none)
 else (
 (nck a0).bind fun _ =>
 (aidx (padd a0 1) a1 16 3).bind fun q2 =>
 (aidx q2 a2 3 1).bind fun q3 =>
 (L.asInt .i64 (rd h q3 0)).bind fun x4 =>
 (if (decide (x4 ≥ 64)) = true then (
 none)
 else (
 (nck a0).bind fun _ =>
 (aidx (padd a0 1) a1 16 3).bind fun q5 =>
 (aidx q5 a2 3 1).bind fun q6 =>
 (L.asInt .i64 (rd h q6 0)).bind fun x7 =>
 (nck a0).bind fun _ =>
 (aidx (padd a0 1) a1 16 3).bind fun q8 =>
 (aidx q8 a2 3 1).bind fun q9 =>
 (wr h q9 [(.int .i64 (IntKind.i64.wrap (x7 + 1)))]).bind fun h10 =>
 some (0, h10)))))
abbrev ks45 : List SK := [.one .ref, .one (.int .i64), .one (.int .i64)]
abbrev rs45 : List SK := [.one (.int .i64)]
def e45 (N : Nat) : Env := ⟨Tryz.prog, 34, inTab [], inTab [], natTab [], inTab [], calTab [(94, .ro (mkFun ks94 rs94 (F94 N)))], altTab [], loopTab [], natTab [], inTab [2, 4]⟩
theorem fine45 (N : Nat) : Fine (e45 N) N 45 Tryz.f45 ks45 rs45 (F45 N) :=
  ⟨Tryz.func45, by kernel_rfl, by kernel_rfl, by kernel_rfl, loops_of trivial, by kernel_rfl, by kernel_rfl, fun _ => by kernel_rfl⟩
theorem good45 (N : Nat) : Go.L.Good (e45 N) := good_of ⟨gd94 N, trivial⟩
theorem gd45 (N : Nat) : CalOk Tryz.prog 45 (.full (mkFun ks45 rs45 (F45 N))) := mkFun_good (fine45 N) (good45 N)

/-! ### 133: timer.Load -/
def L133_0 (N : Nat) : Nat → V × Int × Int × H → Option (V × H)
 | 0, _ => none
 | n + 1, (x11, x12, x13, h14) =>
 (if (decide (x13 < x12)) = true then (
 none)
 else (
 some (x11, h14)))
def F133 (N : Nat) : Int × V × H → Option (V × Int × H)
 | (a0, a1, h) =>
 (F55 N (a0, h)).bind fun (x1, x2, h3) =>
 (if (x2 != 0) = true then (
 none)
 else (
 (slen a1).bind fun n4 =>
 (if (decide (n4 > 256)) = true then (
 none)
 else (
 (some (h3 ++ [O.map 0 [] []]) : Option H).bind fun h5 =>
 (slen a1).bind fun n6 =>
 (L133_0 N N (x1, n6, 0, h5)).bind fun (x15, h16) =>
 some (x15, 0, h16)))))
abbrev ks133 : List SK := [.one (.int .i64), .one .ref]
abbrev rs133 : List SK := [.one .ref, .one (.int .i64)]
def e133 (N : Nat) : Env := ⟨Tryz.prog, 101, inTab [10], inTab [], natTab [(10, 10), (31, 10), (36, 10), (42, 10), (47, 10), (63, 10), (69, 10), (75, 10), (82, 10)], inTab [], calTab [(55, .gro (mkFun ks55 rs55 (F55 N)))], altTab [], loopTab [(8, ⟨⟨.normal, [6, 25, 26], [.one .ref, .one (.int .i64), .one (.int .i64)], [], []⟩, [⟨(.exit 0), [6], [.one .ref], [], []⟩], L133_0 N⟩)], natTab [], inTab [3, 5, 9, 10, 11, 12, 13, 14, 15, 16, 17, 18]⟩
theorem l133_0 (N : Nat) : ∀ A, (e133 N).lp (lid (loopAt Tryz.f133 0)) = some A → LoopOk (e133 N) N (loopAt Tryz.f133 0) A :=
  loopOk_of (A := ⟨⟨.normal, [6, 25, 26], [.one .ref, .one (.int .i64), .one (.int .i64)], [], []⟩, [⟨(.exit 0), [6], [.one .ref], [], []⟩], L133_0 N⟩) (by kernel_rfl) (fun _ => rfl) (fun _ _ => by kernel_rfl)
theorem fine133 (N : Nat) : Fine (e133 N) N 133 Tryz.f133 ks133 rs133 (F133 N) :=
  ⟨Tryz.func133, by kernel_rfl, by kernel_rfl, by kernel_rfl, loops_of ⟨l133_0 N, trivial⟩, by kernel_rfl, by kernel_rfl, fun _ => by kernel_rfl⟩
theorem good133 (N : Nat) : Go.L.Good (e133 N) := good_of ⟨gdg55 N, trivial⟩
theorem gdg133 (N : Nat) : CalOk Tryz.prog 133 (.gro (mkFun ks133 rs133 (F133 N))) := mkFun_groC (fine133 N) (good133 N) (by kernel_rfl)

/-! ### 99: node.Node).wound -/
def L99_0 (N : Nat) : Nat → V × Int × Int × V × V × V × V × V × V × V × V × V × V × Int × Int × V × H → Option (V × V × V × V × V × V × V × V × V × V × V × Int × Int × V × H)
 | 0, _ => none
 | n + 1, (x19, x20, x21, x22, x23, x24, x25, x26, x27, x28, x29, x30, x31, x32, x33, x34, h35) =>
 (if (decide (x21 < x20)) = true then (
 none)
 else (
 some (x19, x22, x23, x24, x25, x26, x27, x28, x29, x30, x31, x32, x33, x34, h35)))
def F99 (N : Nat) : V × V × V × V × V × V × V × V × V × V × V × Int × Int × V × V × V × H → Option (V × Bool × H)
 | (a0, a1_0, a1_1, a1_2, a1_3, a1_4, a1_5, a1_6, a1_7, a1_8, a1_9, a1_10, a1_11, a1_12, a2, a3, h) =>
 (slen a2).bind fun n1 =>
 (L99_0 N N (a2, n1, 0, a1_0, a1_1, a1_2, a1_3, a1_4, a1_5, a1_6, a1_7, a1_8, a1_9, a1_10, a1_11, a1_12, h)).bind fun (x36, x37, x38, x39, x40, x41, x42, x43, x44, x45, x46, x47, x48, x49, h50) =>
 (F133 N (x47, x36, h50)).bind fun (x51, x52, h53) =>
 some (x51, (x52 == 0), h53)
abbrev ks99 : List SK := [.one .ref, .agg [.ref, .ref, .ref, .ref, .ref, .ref, .ref, .ref, .ref, .ref, (.int .i64), (.int .i64), .ref], .one .ref, .one .ref]
abbrev rs99 : List SK := [.one .ref, .one .bool]
def e99 (N : Nat) : Env := ⟨Tryz.prog, 53, inTab [5, 11], inTab [], natTab [(5, 5), (11, 11), (20, 11), (22, 5), (27, 11), (34, 11), (40, 11), (44, 5)], inTab [], calTab [(133, .gro (mkFun ks133 rs133 (F133 N)))], altTab [], loopTab [(2, ⟨⟨.normal, [2, 5, 15, 16], [.one .ref, .lp 5 0, .one (.int .i64), .one (.int .i64)], [5], [.cells [.ref, .ref, .ref, .ref, .ref, .ref, .ref, .ref, .ref, .ref, (.int .i64), (.int .i64), .ref]]⟩, [⟨(.exit 0), [2, 5], [.one .ref, .lp 5 0], [5], [.cells [.ref, .ref, .ref, .ref, .ref, .ref, .ref, .ref, .ref, .ref, (.int .i64), (.int .i64), .ref]]⟩], L99_0 N⟩)], natTab [], inTab [3, 4, 5, 6, 7]⟩
theorem l99_0 (N : Nat) : ∀ A, (e99 N).lp (lid (loopAt Tryz.f99 0)) = some A → LoopOk (e99 N) N (loopAt Tryz.f99 0) A :=
  loopOk_of (A := ⟨⟨.normal, [2, 5, 15, 16], [.one .ref, .lp 5 0, .one (.int .i64), .one (.int .i64)], [5], [.cells [.ref, .ref, .ref, .ref, .ref, .ref, .ref, .ref, .ref, .ref, (.int .i64), (.int .i64), .ref]]⟩, [⟨(.exit 0), [2, 5], [.one .ref, .lp 5 0], [5], [.cells [.ref, .ref, .ref, .ref, .ref, .ref, .ref, .ref, .ref, .ref, (.int .i64), (.int .i64), .ref]]⟩], L99_0 N⟩) (by kernel_rfl) (fun _ => rfl) (fun _ _ => by kernel_rfl)
theorem fine99 (N : Nat) : Fine (e99 N) N 99 Tryz.f99 ks99 rs99 (F99 N) :=
  ⟨Tryz.func99, by kernel_rfl, by kernel_rfl, by kernel_rfl, loops_of ⟨l99_0 N, trivial⟩, by kernel_rfl, by kernel_rfl, fun _ => by kernel_rfl⟩
theorem good99 (N : Nat) : Go.L.Good (e99 N) := good_of ⟨gdg133 N, trivial⟩
theorem gdg99 (N : Nat) : CalOk Tryz.prog 99 (.gro (mkFun ks99 rs99 (F99 N))) := mkFun_groC (fine99 N) (good99 N) (by kernel_rfl)

/-! ### 135: api.Tie] -/
def L135_0 (N : Nat) : Nat → Int × Int × H → Option (H)
 | 0, _ => none
 | n + 1, (x7, x8, h9) =>
 (if (decide (x8 < x7)) = true then (
 none)
 else (
 some h9))
def F135 (N : Nat) : V × V × H → Option (Bool × H)
 | (a0, a1, h) =>
 (slen a0).bind fun n1 =>
 (slen a1).bind fun n2 =>
 (if (n1 != n2) = true then (
 none)
 else (
 (slen a0).bind fun n3 =>
 (L135_0 N N (n3, 0, h)).bind fun h10 =>
 some (true, h10)))
abbrev ks135 : List SK := [.one .ref, .one .ref]
abbrev rs135 : List SK := [.one .bool]
def e135 (N : Nat) : Env := ⟨Tryz.prog, 26, inTab [], inTab [], natTab [], inTab [], calTab [], altTab [], loopTab [(4, ⟨⟨.normal, [12, 13], [.one (.int .i64), .one (.int .i64)], [], []⟩, [⟨(.exit 0), [], [], [], []⟩], L135_0 N⟩)], natTab [], inTab [2, 5, 6, 7, 8]⟩
theorem l135_0 (N : Nat) : ∀ A, (e135 N).lp (lid (loopAt Tryz.f135 0)) = some A → LoopOk (e135 N) N (loopAt Tryz.f135 0) A :=
  loopOk_of (A := ⟨⟨.normal, [12, 13], [.one (.int .i64), .one (.int .i64)], [], []⟩, [⟨(.exit 0), [], [], [], []⟩], L135_0 N⟩) (by kernel_rfl) (fun _ => rfl) (fun _ _ => by kernel_rfl)
theorem fine135 (N : Nat) : Fine (e135 N) N 135 Tryz.f135 ks135 rs135 (F135 N) :=
  ⟨Tryz.func135, by kernel_rfl, by kernel_rfl, by kernel_rfl, loops_of ⟨l135_0 N, trivial⟩, by kernel_rfl, by kernel_rfl, fun _ => by kernel_rfl⟩
theorem good135 (N : Nat) : Go.L.Good (e135 N) := good_of trivial
theorem gd135 (N : Nat) : CalOk Tryz.prog 135 (.ro (mkFun ks135 rs135 (F135 N))) := mkFun_ro (fine135 N) (good135 N) (by kernel_rfl)

/-! ### 100: tie.Load -/
def L100_0 (N : Nat) : Nat → V × V × Int × Int × H → Option (V × V × H)
 | 0, _ => none
 | n + 1, (x9, x10, x11, x12, h13) =>
 (if (decide (x12 < x11)) = true then (
 none)
 else (
 some (x9, x10, h13)))
def F100 (N : Nat) : V × H → Option (V × Int × H)
 | (a0, h) =>
 (F50 N h).bind fun (x1, h2) =>
 (slen a0).bind fun n3 =>
 (L100_0 N N (a0, x1, n3, 0, h2)).bind fun (x14, x15, h16) =>
 Option.bind (α := (V × H)) (locF true ks40 rs40 (F40 N) ((x15, h16) : V × H)) fun (x17, h18) =>
 (F135 N (x17, x14, h18)).bind fun (x19, _) =>
 (if (!x19) = true then (
 none)
 else (
 (slen x14).bind fun n20 =>
 (if (decide (n20 > 1024)) = true then (
 none)
 else (
 some (x15, 0, h18)))))
abbrev ks100 : List SK := [.one .ref]
abbrev rs100 : List SK := [.one .ref, .one (.int .i64)]
def e100 (N : Nat) : Env := ⟨Tryz.prog, 78, inTab [6], inTab [], natTab [(6, 6), (14, 6), (19, 6), (25, 6), (30, 6), (34, 6), (41, 6), (43, 6), (50, 6), (52, 6), (54, 6), (57, 6), (61, 6), (63, 6)], inTab [], calTab [(50, .gro (mkFun ks50 rs50 (F50 N))), (40, .gro (mkFun ks40 rs40 (locF true ks40 rs40 (F40 N)))), (135, .ro (mkFun ks135 rs135 (F135 N)))], altTab [], loopTab [(3, ⟨⟨.normal, [0, 4, 9, 10], [.one .ref, .one .ref, .one (.int .i64), .one (.int .i64)], [], []⟩, [⟨(.exit 0), [0, 4], [.one .ref, .one .ref], [], []⟩], L100_0 N⟩)], natTab [], inTab [4, 5, 6, 7, 8, 9, 10, 11, 12, 14, 16]⟩
theorem l100_0 (N : Nat) : ∀ A, (e100 N).lp (lid (loopAt Tryz.f100 0)) = some A → LoopOk (e100 N) N (loopAt Tryz.f100 0) A :=
  loopOk_of (A := ⟨⟨.normal, [0, 4, 9, 10], [.one .ref, .one .ref, .one (.int .i64), .one (.int .i64)], [], []⟩, [⟨(.exit 0), [0, 4], [.one .ref, .one .ref], [], []⟩], L100_0 N⟩) (by kernel_rfl) (fun _ => rfl) (fun _ _ => by kernel_rfl)
theorem fine100 (N : Nat) : Fine (e100 N) N 100 Tryz.f100 ks100 rs100 (F100 N) :=
  ⟨Tryz.func100, by kernel_rfl, by kernel_rfl, by kernel_rfl, loops_of ⟨l100_0 N, trivial⟩, by kernel_rfl, by kernel_rfl, fun _ => by kernel_rfl⟩
theorem good100 (N : Nat) : Go.L.Good (e100 N) := good_of ⟨gdg50 N, ⟨gl40 N, ⟨gd135 N, trivial⟩⟩⟩
theorem gdg100 (N : Nat) : CalOk Tryz.prog 100 (.gro (mkFun ks100 rs100 (F100 N))) := mkFun_groC (fine100 N) (good100 N) (by kernel_rfl)

/-! ### 48: node.Node).timed -/
def L48_0 (N : Nat) : Nat → V × V × Int × Int × V × V × V × V × V × V × V × V × V × V × Int × Int × V × H → Option (V × V × V × V × V × V × V × V × V × V × V × Int × Int × V × H)
 | 0, _ => none
 | n + 1, (x40, x41, x42, x43, x44, x45, x46, x47, x48, x49, x50, x51, x52, x53, x54, x55, x56, h57) =>
 (if (decide (x43 < x42)) = true then (
 (sidx x49 x43 1).bind fun q58 =>
 (L.asInt .i64 (rd h57 q58 0)).bind fun x59 =>
 (sidx x48 x43 3).bind fun q60 =>
 (rdN h57 q60 3).bind fun cs61 =>
 (F88 N (x44, x59, cs61, h57)).bind fun (x62, x63, h64) =>
 (sidx x52 x43 1).bind fun q65 =>
 ((rd h64 q65 0)).bind fun x66 =>
 (F99 N (x40, x44, x45, x46, x47, x48, x49, x50, x51, x52, x53, x54, x55, x56, x66, x41, h64)).bind fun (x67, x68, h69) =>
 (if (!x68) = true then (
 none)
 else (
 (nck x40).bind fun _ =>
 ((rd h69 (padd x40 5) 0)).bind fun x70 =>
 (sidx x50 x43 1).bind fun q71 =>
 (L.asInt .i64 (rd h69 q71 0)).bind fun x72 =>
 (sidx x51 x43 1).bind fun q73 =>
 (L.asInt .i64 (rd h69 q73 0)).bind fun x74 =>
 (ck1 x62).bind fun _ =>
 (ck1 x67).bind fun _ =>
 (sidx x70 x43 4).bind fun q75 =>
 (wr h69 q75 [x62, x67, (.int .i64 x72), (.int .i64 x74)]).bind fun h76 =>
 L48_0 N n (x40, x41, x42, (IntKind.i64.wrap (x43 + 1)), x44, x45, x46, x47, x48, x49, x50, x51, x52, x53, x54, x55, x56, h76))))
 else (
 some (x40, x44, x45, x46, x47, x48, x49, x50, x51, x52, x53, x54, x55, x56, h57)))
def L48_1 (N : Nat) : Nat → V × V × Int × Int × H → Option (V × V × H)
 | 0, _ => none
 | n + 1, (x101, x102, x103, x104, h105) =>
 (if (decide (x104 < x103)) = true then (
 none)
 else (
 some (x101, x102, h105)))
def F48 (N : Nat) : V × V × V × V × V × V × V × V × V × V × V × Int × Int × V × H → Option (Bool × H)
 | (a0, a1_0, a1_1, a1_2, a1_3, a1_4, a1_5, a1_6, a1_7, a1_8, a1_9, a1_10, a1_11, a1_12, h) =>
 (some (h ++ [O.map 0 [] []]) : Option H).bind fun h1 =>
 (slen a1_4).bind fun n2 =>
 (L48_0 N N (a0, (.map (h).length), n2, 0, a1_0, a1_1, a1_2, a1_3, a1_4, a1_5, a1_6, a1_7, a1_8, a1_9, a1_10, a1_11, a1_12, h1)).bind fun (x77, x78, x79, x80, x81, x82, x83, x84, x85, x86, x87, x88, x89, x90, h91) =>
 (F100 N (x87, h91)).bind fun (x92, x93, h94) =>
 (if (x93 != 0) = true then (
 none)
 else (
 (slen x87).bind fun n95 =>
 (L48_1 N N (x77, x92, n95, 0, h94)).bind fun (x106, x107, h108) =>
 (nck x106).bind fun _ =>
 (ck1 x107).bind fun _ =>
 (wr h108 (padd x106 4) [x107]).bind fun h109 =>
 some (true, h109)))
abbrev ks48 : List SK := [.one .ref, .agg [.ref, .ref, .ref, .ref, .ref, .ref, .ref, .ref, .ref, .ref, (.int .i64), (.int .i64), .ref]]
abbrev rs48 : List SK := [.one .bool]
def e48 (N : Nat) : Env := ⟨Tryz.prog, 123, inTab [3, 14], inTab [], natTab [(3, 3), (14, 14), (16, 3), (23, 3), (25, 3), (30, 3), (41, 3), (59, 3), (64, 3), (73, 3), (80, 3), (88, 14), (94, 14), (100, 14), (102, 3), (107, 14), (112, 14)], inTab [], calTab [(88, .full (mkFun ks88 rs88 (F88 N))), (99, .gro (mkFun ks99 rs99 (F99 N))), (100, .gro (mkFun ks100 rs100 (F100 N)))], altTab [], loopTab [(3, ⟨⟨.normal, [0, 3, 5, 18, 19], [.one .ref, .lp 3 0, .one .ref, .one (.int .i64), .one (.int .i64)], [3], [.cells [.ref, .ref, .ref, .ref, .ref, .ref, .ref, .ref, .ref, .ref, (.int .i64), (.int .i64), .ref]]⟩, [⟨(.exit 0), [0, 3], [.one .ref, .lp 3 0], [3], [.cells [.ref, .ref, .ref, .ref, .ref, .ref, .ref, .ref, .ref, .ref, (.int .i64), (.int .i64), .ref]]⟩], L48_0 N⟩), (15, ⟨⟨.normal, [0, 11, 82, 83], [.one .ref, .one .ref, .one (.int .i64), .one (.int .i64)], [], []⟩, [⟨(.exit 2), [0, 11], [.one .ref, .one .ref], [], []⟩], L48_1 N⟩)], natTab [], inTab [8, 13, 16, 17, 18, 19]⟩
theorem l48_0 (N : Nat) : ∀ A, (e48 N).lp (lid (loopAt Tryz.f48 0)) = some A → LoopOk (e48 N) N (loopAt Tryz.f48 0) A :=
  loopOk_of (A := ⟨⟨.normal, [0, 3, 5, 18, 19], [.one .ref, .lp 3 0, .one .ref, .one (.int .i64), .one (.int .i64)], [3], [.cells [.ref, .ref, .ref, .ref, .ref, .ref, .ref, .ref, .ref, .ref, (.int .i64), (.int .i64), .ref]]⟩, [⟨(.exit 0), [0, 3], [.one .ref, .lp 3 0], [3], [.cells [.ref, .ref, .ref, .ref, .ref, .ref, .ref, .ref, .ref, .ref, (.int .i64), (.int .i64), .ref]]⟩], L48_0 N⟩) (by kernel_rfl) (fun _ => rfl) (fun _ _ => by kernel_rfl)
theorem l48_1 (N : Nat) : ∀ A, (e48 N).lp (lid (loopAt Tryz.f48 1)) = some A → LoopOk (e48 N) N (loopAt Tryz.f48 1) A :=
  loopOk_of (A := ⟨⟨.normal, [0, 11, 82, 83], [.one .ref, .one .ref, .one (.int .i64), .one (.int .i64)], [], []⟩, [⟨(.exit 2), [0, 11], [.one .ref, .one .ref], [], []⟩], L48_1 N⟩) (by kernel_rfl) (fun _ => rfl) (fun _ _ => by kernel_rfl)
theorem fine48 (N : Nat) : Fine (e48 N) N 48 Tryz.f48 ks48 rs48 (F48 N) :=
  ⟨Tryz.func48, by kernel_rfl, by kernel_rfl, by kernel_rfl, loops_of ⟨l48_0 N, ⟨l48_1 N, trivial⟩⟩, by kernel_rfl, by kernel_rfl, fun _ => by kernel_rfl⟩
theorem good48 (N : Nat) : Go.L.Good (e48 N) := good_of ⟨gd88 N, ⟨gdg99 N, ⟨gdg100 N, trivial⟩⟩⟩
theorem gd48 (N : Nat) : CalOk Tryz.prog 48 (.full (mkFun ks48 rs48 (F48 N))) := mkFun_good (fine48 N) (good48 N)

/-! ### 56: node.Node).refused -/
def F56 (N : Nat) : V × H → Option (Int × H)
 | (a0, h) =>
 (F23 N (a0, h)).bind fun (x1, _) =>
 (if (!x1) = true then (
 none)
 else (
 (nck a0).bind fun _ =>
 ((rd h (padd a0 11) 0)).bind fun x2 =>
 (slen x2).bind fun n3 =>
 (if (decide (n3 ≥ 65536)) = true then (
 none)
 else (
 some (0, h)))))
abbrev ks56 : List SK := [.one .ref]
abbrev rs56 : List SK := [.one (.int .i64)]
def e56 (N : Nat) : Env := ⟨Tryz.prog, 12, inTab [], inTab [], natTab [], inTab [], calTab [(23, .ro (mkFun ks23 rs23 (F23 N)))], altTab [], loopTab [], natTab [], inTab [2, 4]⟩
theorem fine56 (N : Nat) : Fine (e56 N) N 56 Tryz.f56 ks56 rs56 (F56 N) :=
  ⟨Tryz.func56, by kernel_rfl, by kernel_rfl, by kernel_rfl, loops_of trivial, by kernel_rfl, by kernel_rfl, fun _ => by kernel_rfl⟩
theorem good56 (N : Nat) : Go.L.Good (e56 N) := good_of ⟨gd23 N, trivial⟩
theorem gd56 (N : Nat) : CalOk Tryz.prog 56 (.ro (mkFun ks56 rs56 (F56 N))) := mkFun_ro (fine56 N) (good56 N) (by kernel_rfl)

/-! ### 59: node.Node).done -/
def F59 (N : Nat) : V × List V × H → Option (H)
 | (a0, a1, h) =>
 (if (a1).length = 29 then (
 (nck a0).bind fun _ =>
 ((rd h (padd a0 11) 0)).bind fun x1 =>
 ((if 0 + 29 ≤ (a1).length then some (((a1).drop 0).take 29) else none) : Option (List V)).bind fun cs2 =>
 (if (cs2).length = 29 then (
 (if 0 + (cs2).length ≤ 29 then (
 (scells h (.rs 29 (chunks 29 1 (splice [(.int .i64 0), (.int .i64 0), (.int .i64 0), (.int .i64 0), (.int .i64 0), (.int .i64 0), (.int .i64 0), .nils, (.int .i64 0), (.bool false), .nils, .nils, (.int .i64 0), (.int .i64 0), (.int .i64 0), (.int .i64 0), (.int .i64 0), (.int .i64 0), (.int .i64 0), (.int .i64 0), (.cplx .f64 0 0), (.str (ByteArray.mk #[])), (.int .i64 0), (.int .i64 0), .nils, (.int .i64 0), (.int .i64 0), .nils, .nils] 0 cs2))) 29).bind fun cs5 =>
 (happ h x1 29 (snlen (.rs 29 (chunks 29 1 (splice [(.int .i64 0), (.int .i64 0), (.int .i64 0), (.int .i64 0), (.int .i64 0), (.int .i64 0), (.int .i64 0), .nils, (.int .i64 0), (.bool false), .nils, .nils, (.int .i64 0), (.int .i64 0), (.int .i64 0), (.int .i64 0), (.int .i64 0), (.int .i64 0), (.int .i64 0), (.int .i64 0), (.cplx .f64 0 0), (.str (ByteArray.mk #[])), (.int .i64 0), (.int .i64 0), .nils, (.int .i64 0), (.int .i64 0), .nils, .nils] 0 cs2)))) cs5).bind fun (v3, h4) =>
 (nck a0).bind fun _ =>
 (ck1 v3).bind fun _ =>
 (wr h4 (padd a0 11) [v3]).bind fun h6 =>
 some h6) else none)) else none)) else none)
abbrev ks59 : List SK := [.one .ref, .blk]
abbrev rs59 : List SK := []
def e59 (N : Nat) : Env := ⟨Tryz.prog, 14, inTab [3, 10], inTab [], natTab [(3, 3)], inTab [], calTab [], altTab [], loopTab [], natTab [], inTab []⟩
theorem fine59 (N : Nat) : Fine (e59 N) N 59 Tryz.f59 ks59 rs59 (F59 N) :=
  ⟨Tryz.func59, by kernel_rfl, by kernel_rfl, by kernel_rfl, loops_of trivial, by kernel_rfl, by kernel_rfl, fun _ => by kernel_rfl⟩
theorem good59 (N : Nat) : Go.L.Good (e59 N) := good_of trivial
theorem gd59 (N : Nat) : CalOk Tryz.prog 59 (.full (mkFun ks59 rs59 (F59 N))) := mkFun_good (fine59 N) (good59 N)

/-! ### 21: node.Node).Load -/
def F21 (N : Nat) : V × ByteArray × V × H → Option (Int × Int × H)
 | (a0, a1_0, a1_1, h) =>
 (F56 N (a0, h)).bind fun (x1, _) =>
 (if (x1 != 0) = true then (
 none)
 else (
 (F57 N (a1_0, a1_1, h)).bind fun (x2, x3, x4, h5) =>
 (if (x2 != 0) = true then (
 none)
 else (
 (nck a0).bind fun _ =>
 ((rd h5 (padd a0 1) 0)).bind fun x6 =>
 (slen x6).bind fun n7 =>
 (if (decide (n7 ≥ 32)) = true then (
 none)
 else (
 (nck a0).bind fun _ =>
 ((rd h5 (padd a0 1) 0)).bind fun x8 =>
 Option.bind (α := (ByteArray × V × H)) (locF true ks58 rs58 (F58 N) ((a1_0, a1_1, h5) : ByteArray × V × H)) fun (x9, x10, h11) =>
 (happ h11 x8 2 1 [(.str x9), x10]).bind fun (v12, h13) =>
 (nck a0).bind fun _ =>
 (ck1 v12).bind fun _ =>
 (wr h13 (padd a0 1) [v12]).bind fun h14 =>
 (nck a0).bind fun _ =>
 ((rd h14 (padd a0 1) 0)).bind fun x15 =>
 (slen x15).bind fun n16 =>
 Option.bind (α := (ByteArray × V × H)) (locF true ks58 rs58 (F58 N) ((a1_0, a1_1, h14) : ByteArray × V × H)) fun (x17, x18, h19) =>
 (some (h19 ++ [O.cells 0 [(.str x17), x18]]) : Option H).bind fun h20 =>
 (ck1 (.sl (h19).length 0 0 1 2 (some 1))).bind fun _ =>
 (F59 N (a0, [(.int .i64 1), (.int .i64 0), (.int .i64 0), (.int .i64 (IntKind.i64.wrap (n16 - 1))), (.int .i64 0), (.int .i64 0), (.int .i64 0), .nils, (.int .i64 0), (.bool false), .nils, .nils, (.int .i64 0), (.int .i64 0), (.int .i64 0), (.int .i64 0), (.int .i64 0), (.int .i64 0), (.int .i64 0), (.int .i64 0), (.cplx .f64 0 0), (.str (ByteArray.mk #[])), (.int .i64 0), (.int .i64 0), .nils, (.int .i64 0), (.int .i64 0), .nils, (.sl (h19).length 0 0 1 2 (some 1))], h20)).bind fun h21 =>
 (nck a0).bind fun _ =>
 ((rd h21 (padd a0 1) 0)).bind fun x22 =>
 (slen x22).bind fun n23 =>
 some ((IntKind.i64.wrap (n23 - 1)), 0, h21)))))))
abbrev ks21 : List SK := [.one .ref, .agg [.str, .ref]]
abbrev rs21 : List SK := [.one (.int .i64), .one (.int .i64)]
def e21 (N : Nat) : Env := ⟨Tryz.prog, 59, inTab [3, 37], inTab [], natTab [(3, 3)], inTab [], calTab [(56, .ro (mkFun ks56 rs56 (F56 N))), (57, .full (mkFun ks57 rs57 (F57 N))), (58, .gro (mkFun ks58 rs58 (locF true ks58 rs58 (F58 N)))), (59, .full (mkFun ks59 rs59 (F59 N)))], altTab [], loopTab [], natTab [], inTab [3, 6, 8]⟩
theorem fine21 (N : Nat) : Fine (e21 N) N 21 Tryz.f21 ks21 rs21 (F21 N) :=
  ⟨Tryz.func21, by kernel_rfl, by kernel_rfl, by kernel_rfl, loops_of trivial, by kernel_rfl, by kernel_rfl, fun _ => by kernel_rfl⟩
theorem good21 (N : Nat) : Go.L.Good (e21 N) := good_of ⟨gd56 N, ⟨gd57 N, ⟨gl58 N, ⟨gd59 N, trivial⟩⟩⟩⟩
theorem gd21 (N : Nat) : CalOk Tryz.prog 21 (.full (mkFun ks21 rs21 (F21 N))) := mkFun_good (fine21 N) (good21 N)
theorem gl21 (N : Nat) : CalOk Tryz.prog 21 (.full (mkFun ks21 rs21 (locF false ks21 rs21 (F21 N)))) := loc_full (gd21 N)

/-! ### 60: homes.Mod -/
def F60 (N : Nat) : Int × Int × H → Option (Int × Int × H)
 | (a0, a1, h) =>
 (if (decide (a1 < 1)) = true then (
 none)
 else (
 (if a1 = 0 then none else (
 (if (decide ((Int.tmod a0 a1) < 0)) = true then (
 none)
 else (
 some ((Int.tmod a0 a1), 0, h)))))))
abbrev ks60 : List SK := [.one (.int .i64), .one (.int .i64)]
abbrev rs60 : List SK := [.one (.int .i64), .one (.int .i64)]
def e60 (N : Nat) : Env := ⟨Tryz.prog, 18, inTab [], inTab [], natTab [], inTab [], calTab [], altTab [], loopTab [], natTab [], inTab [2, 5]⟩
theorem fine60 (N : Nat) : Fine (e60 N) N 60 Tryz.f60 ks60 rs60 (F60 N) :=
  ⟨Tryz.func60, by kernel_rfl, by kernel_rfl, by kernel_rfl, loops_of trivial, by kernel_rfl, by kernel_rfl, fun _ => by kernel_rfl⟩
theorem good60 (N : Nat) : Go.L.Good (e60 N) := good_of trivial
theorem gd60 : CalOk Tryz.prog 60 (.pure (mkP ks60 rs60 (F60 100))) := mkP_good (fine60 100) (good60 100) (by kernel_rfl) (by kernel_rfl)

/-! ### 205: frame.Stack).last -/
def F205 (N : Nat) : V × H → Option (V × H)
 | (a0, h) =>
 (F115 N (a0, h)).bind fun (x1, _) =>
 (if (!x1) = true then (
 some (true, h))
 else (
 (nck a0).bind fun _ =>
 ((rd h (padd a0 1) 0)).bind fun x4 =>
 (slen x4).bind fun n5 =>
 some ((n5 == 0), h))).bind fun (b2, h3) =>
 (if b2 = true then (
 some (.nilp, h3))
 else (
 none))
abbrev ks205 : List SK := [.one .ref]
abbrev rs205 : List SK := [.one .ref]
def e205 (N : Nat) : Env := ⟨Tryz.prog, 25, inTab [], inTab [], natTab [], inTab [], calTab [(115, .ro (mkFun ks115 rs115 (F115 N)))], altTab [], loopTab [], natTab [], inTab [3]⟩
theorem fine205 (N : Nat) : Fine (e205 N) N 205 Tryz.f205 ks205 rs205 (F205 N) :=
  ⟨Tryz.func205, by kernel_rfl, by kernel_rfl, by kernel_rfl, loops_of trivial, by kernel_rfl, by kernel_rfl, fun _ => by kernel_rfl⟩
theorem good205 (N : Nat) : Go.L.Good (e205 N) := good_of ⟨gd115 N, trivial⟩
theorem gd205 (N : Nat) : CalOk Tryz.prog 205 (.ro (mkFun ks205 rs205 (F205 N))) := mkFun_ro (fine205 N) (good205 N) (by kernel_rfl)

/-! ### 171: frame.Stack).height -/
def F171 (N : Nat) : V × H → Option (Int × H)
 | (a0, h) =>
 (F205 N (a0, h)).bind fun (x1, _) =>
 (isNil x1).bind fun b2 =>
 (if (!b2) = true then (
 none)
 else (
 (nck a0).bind fun _ =>
 ((rd h (padd a0 2) 0)).bind fun x3 =>
 (slen x3).bind fun n4 =>
 some (n4, h)))
abbrev ks171 : List SK := [.one .ref]
abbrev rs171 : List SK := [.one (.int .i64)]
def e171 (N : Nat) : Env := ⟨Tryz.prog, 23, inTab [], inTab [], natTab [], inTab [], calTab [(205, .ro (mkFun ks205 rs205 (F205 N)))], altTab [], loopTab [], natTab [], inTab [3]⟩
theorem fine171 (N : Nat) : Fine (e171 N) N 171 Tryz.f171 ks171 rs171 (F171 N) :=
  ⟨Tryz.func171, by kernel_rfl, by kernel_rfl, by kernel_rfl, loops_of trivial, by kernel_rfl, by kernel_rfl, fun _ => by kernel_rfl⟩
theorem good171 (N : Nat) : Go.L.Good (e171 N) := good_of ⟨gd205 N, trivial⟩
theorem gd171 (N : Nat) : CalOk Tryz.prog 171 (.ro (mkFun ks171 rs171 (F171 N))) := mkFun_ro (fine171 N) (good171 N) (by kernel_rfl)

/-! ### 142: frame.Stack).Enter -/
def L142_0 (N : Nat) : Nat → V × Int × Int × Int × V × H → Option (V × Int × Int × V × H)
 | 0, _ => none
 | n + 1, (x30, x31, x32, x33, x34, h35) =>
 (slen x34).bind fun n36 =>
 (if (decide (n36 < x32)) = true then (
 none)
 else (
 some (x30, x31, x33, x34, h35)))
def F142 (N : Nat) : V × Int × Int × Int × H → Option (Int × H)
 | (a0, a1, a2, a3, h) =>
 (F115 N (a0, h)).bind fun (x1, _) =>
 (if (!x1) = true then (
 some (true, h))
 else (
 some ((decide (a1 < 0)), h))).bind fun (b2, h3) =>
 (if b2 = true then (
 some (true, h3))
 else (
 some ((decide (a1 ≥ 64)), h3))).bind fun (b4, h5) =>
 (if b4 = true then (
 some (true, h5))
 else (
 some ((decide (a3 < 0)), h5))).bind fun (b6, h7) =>
 (if b6 = true then (
 some (true, h7))
 else (
 some ((decide (a3 > 32)), h7))).bind fun (b8, h9) =>
 (if b8 = true then (
 some (true, h9))
 else (
 some ((decide (a2 < 0)), h9))).bind fun (b10, h11) =>
 (if b10 = true then (
 some (true, h11))
 else (
 some ((decide (a2 > a3)), h11))).bind fun (b12, h13) =>
 (if b12 = true then (
 none)
 else (
 (F171 N (a0, h13)).bind fun (x14, _) =>
 (if (decide (x14 < a2)) = true then (
 none)
 else (
 (nck a0).bind fun _ =>
 ((rd h13 (padd a0 1) 0)).bind fun x15 =>
 (slen x15).bind fun n16 =>
 (if (decide (n16 ≥ 64)) = true then (
 none)
 else (
 (nck a0).bind fun _ =>
 ((rd h13 (padd a0 2) 0)).bind fun x17 =>
 (slen x17).bind fun n18 =>
 (nck a0).bind fun _ =>
 ((rd h13 (padd a0 2) 0)).bind fun x19 =>
 (slen x19).bind fun n20 =>
 (ssl 7 x19 (IntKind.i64.wrap (n18 - a2)) n20).bind fun v21 =>
 (F62 N (v21, h13)).bind fun (x22, _) =>
 (L142_0 N N (a0, a1, a3, (IntKind.i64.wrap (n18 - a2)), x22, h13)).bind fun (x37, x38, x39, x40, h41) =>
 (nck x37).bind fun _ =>
 ((rd h41 (padd x37 2) 0)).bind fun x42 =>
 (slen x42).bind fun n43 =>
 (ssl 7 x42 0 x39).bind fun v44 =>
 (nck x37).bind fun _ =>
 (ck1 v44).bind fun _ =>
 (wr h41 (padd x37 2) [v44]).bind fun h45 =>
 (nck x37).bind fun _ =>
 ((rd h45 (padd x37 1) 0)).bind fun x46 =>
 (ck1 x40).bind fun _ =>
 (happ h45 x46 4 1 [(.int .i64 x38), (.int .i64 0), x40, (.int .i64 x39)]).bind fun (v47, h48) =>
 (nck x37).bind fun _ =>
 (ck1 v47).bind fun _ =>
 (wr h48 (padd x37 1) [v47]).bind fun h49 =>
 some (0, h49)))))))
abbrev ks142 : List SK := [.one .ref, .one (.int .i64), .one (.int .i64), .one (.int .i64)]
abbrev rs142 : List SK := [.one (.int .i64)]
def e142 (N : Nat) : Env := ⟨Tryz.prog, 94, inTab [69, 90], inTab [], natTab [], inTab [], calTab [(115, .ro (mkFun ks115 rs115 (F115 N))), (171, .ro (mkFun ks171 rs171 (F171 N))), (62, .ro (mkFun ks62 rs62 (F62 N)))], altTab [], loopTab [(9, ⟨⟨.normal, [0, 1, 3, 9, 10], [.one .ref, .one (.int .i64), .one (.int .i64), .one (.int .i64), .one .ref], [], []⟩, [⟨(.exit 0), [0, 1, 9, 10], [.one .ref, .one (.int .i64), .one (.int .i64), .one .ref], [], []⟩], L142_0 N⟩)], natTab [], inTab [2, 4, 6, 10]⟩
theorem l142_0 (N : Nat) : ∀ A, (e142 N).lp (lid (loopAt Tryz.f142 0)) = some A → LoopOk (e142 N) N (loopAt Tryz.f142 0) A :=
  loopOk_of (A := ⟨⟨.normal, [0, 1, 3, 9, 10], [.one .ref, .one (.int .i64), .one (.int .i64), .one (.int .i64), .one .ref], [], []⟩, [⟨(.exit 0), [0, 1, 9, 10], [.one .ref, .one (.int .i64), .one (.int .i64), .one .ref], [], []⟩], L142_0 N⟩) (by kernel_rfl) (fun _ => rfl) (fun _ _ => by kernel_rfl)
theorem fine142 (N : Nat) : Fine (e142 N) N 142 Tryz.f142 ks142 rs142 (F142 N) :=
  ⟨Tryz.func142, by kernel_rfl, by kernel_rfl, by kernel_rfl, loops_of ⟨l142_0 N, trivial⟩, by kernel_rfl, by kernel_rfl, fun _ => by kernel_rfl⟩
theorem good142 (N : Nat) : Go.L.Good (e142 N) := good_of ⟨gd115 N, ⟨gd171 N, ⟨gd62 N, trivial⟩⟩⟩
theorem gd142 (N : Nat) : CalOk Tryz.prog 142 (.full (mkFun ks142 rs142 (F142 N))) := mkFun_good (fine142 N) (good142 N)

/-! ### 109: step.Begin -/
def L109_0 (N : Nat) : Nat → Int × V × V × Int × Int × ByteArray × V × H → Option (Int × V × V × ByteArray × V × H)
 | 0, _ => none
 | n + 1, (x22, x23, x24, x25, x26, x27, x28, h29) =>
 (if (decide (x26 < x25)) = true then (
 none)
 else (
 some (x22, x23, x24, x27, x28, h29)))
def F109 (N : Nat) : ByteArray × V × Int × V × H → Option (V × Int × H)
 | (a0_0, a0_1, a1, a2, h) =>
 (F57 N (a0_0, a0_1, h)).bind fun (x1, x2, x3, h4) =>
 (if (x1 != 0) = true then (
 none)
 else (
 (if (decide (a1 < 0)) = true then (
 some (true, h4))
 else (
 (slen a0_1).bind fun n7 =>
 some ((decide (a1 ≥ n7)), h4))).bind fun (b5, h6) =>
 (if b5 = true then (
 none)
 else (
 (slen a2).bind fun n8 =>
 (sidx a0_1 a1 4).bind fun q9 =>
 (L.asInt .i64 (rd h6 (padd q9 1) 0)).bind fun x10 =>
 (if (n8 != x10) = true then (
 none)
 else (
 (F96 N h6).bind fun (x11, h12) =>
 (slen a2).bind fun n13 =>
 (L109_0 N N (a1, a2, x11, n13, 0, a0_0, a0_1, h12)).bind fun (x30, x31, x32, x33, x34, h35) =>
 (slen x31).bind fun n36 =>
 (sidx x34 x30 4).bind fun q37 =>
 (L.asInt .i64 (rd h35 (padd q37 2) 0)).bind fun x38 =>
 (F142 N (x32, x30, n36, x38, h35)).bind fun (x39, h40) =>
 (if (x39 != 0) = true then (
 none)
 else (
 some (x32, 0, h40)))))))))
abbrev ks109 : List SK := [.agg [.str, .ref], .one (.int .i64), .one .ref]
abbrev rs109 : List SK := [.one .ref, .one (.int .i64)]
def e109 (N : Nat) : Env := ⟨Tryz.prog, 74, inTab [3, 13], inTab [], natTab [(3, 3), (13, 13), (30, 3), (38, 3), (63, 3)], inTab [], calTab [(57, .full (mkFun ks57 rs57 (F57 N))), (96, .gro (mkFun ks96 rs96 (F96 N))), (142, .full (mkFun ks142 rs142 (F142 N)))], altTab [], loopTab [(10, ⟨⟨.normal, [1, 2, 3, 11, 47, 48], [.one (.int .i64), .one .ref, .lp 3 0, .one .ref, .one (.int .i64), .one (.int .i64)], [3], [.cells [.str, .ref]]⟩, [⟨(.exit 1), [1, 2, 3, 11], [.one (.int .i64), .one .ref, .lp 3 0, .one .ref], [3], [.cells [.str, .ref]]⟩], L109_0 N⟩)], natTab [], inTab [3, 5, 7, 11, 12, 13, 14, 15, 18]⟩
theorem l109_0 (N : Nat) : ∀ A, (e109 N).lp (lid (loopAt Tryz.f109 0)) = some A → LoopOk (e109 N) N (loopAt Tryz.f109 0) A :=
  loopOk_of (A := ⟨⟨.normal, [1, 2, 3, 11, 47, 48], [.one (.int .i64), .one .ref, .lp 3 0, .one .ref, .one (.int .i64), .one (.int .i64)], [3], [.cells [.str, .ref]]⟩, [⟨(.exit 1), [1, 2, 3, 11], [.one (.int .i64), .one .ref, .lp 3 0, .one .ref], [3], [.cells [.str, .ref]]⟩], L109_0 N⟩) (by kernel_rfl) (fun _ => rfl) (fun _ _ => by kernel_rfl)
theorem fine109 (N : Nat) : Fine (e109 N) N 109 Tryz.f109 ks109 rs109 (F109 N) :=
  ⟨Tryz.func109, by kernel_rfl, by kernel_rfl, by kernel_rfl, loops_of ⟨l109_0 N, trivial⟩, by kernel_rfl, by kernel_rfl, fun _ => by kernel_rfl⟩
theorem good109 (N : Nat) : Go.L.Good (e109 N) := good_of ⟨gd57 N, ⟨gdg96 N, ⟨gd142 N, trivial⟩⟩⟩
theorem gd109 (N : Nat) : CalOk Tryz.prog 109 (.full (mkFun ks109 rs109 (F109 N))) := mkFun_good (fine109 N) (good109 N)

/-! ### 143: table.seat] -/
def F143 (N : Nat) : V × H → Option (V × H)
 | (a0, h) =>
 (isNilS a0).bind fun b1 =>
 (if b1 = true then (
 none)
 else (
 (some (h ++ [O.cells 0 []]) : Option H).bind fun h2 =>
 (scells h2 a0 3).bind fun cs5 =>
 (happ h2 (.sl (h).length 0 0 0 3 (some 0)) 3 (snlen a0) cs5).bind fun (v3, h4) =>
 some (v3, h4)))
abbrev ks143 : List SK := [.one .ref]
abbrev rs143 : List SK := [.one .ref]
def e143 (N : Nat) : Env := ⟨Tryz.prog, 8, inTab [], inTab [], natTab [], inTab [], calTab [], altTab [], loopTab [], natTab [], inTab [2]⟩
theorem fine143 (N : Nat) : Fine (e143 N) N 143 Tryz.f143 ks143 rs143 (F143 N) :=
  ⟨Tryz.func143, by kernel_rfl, by kernel_rfl, by kernel_rfl, loops_of trivial, by kernel_rfl, by kernel_rfl, fun _ => by kernel_rfl⟩
theorem good143 (N : Nat) : Go.L.Good (e143 N) := good_of trivial
theorem gd143 (N : Nat) : CalOk Tryz.prog 143 (.full (mkFun ks143 rs143 (F143 N))) := mkFun_good (fine143 N) (good143 N)

/-! ### 110: table.Table).Copy -/
def L110_0 (N : Nat) : Nat → V × V × Int × Int × H → Option (V × H)
 | 0, _ => none
 | n + 1, (x18, x19, x20, x21, h22) =>
 (if (decide (x21 < x20)) = true then (
 (sidx x19 x21 3).bind fun q23 =>
 (L.asInt .i64 (rd h22 q23 0)).bind fun x24 =>
 (L.asBool (rd h22 q23 1)).bind fun x25 =>
 (L.asStr (rd h22 q23 2)).bind fun x26 =>
 (if (!((x26).toList == ((ByteArray.mk #[])).toList)) = true then (
 none)
 else (
 L110_0 N n (x18, x19, x20, (IntKind.i64.wrap (x21 + 1)), h22))))
 else (
 some (x18, h22)))
def F110 (N : Nat) : V × H → Option (V × H)
 | (a0, h) =>
 (F63 N (a0, h)).bind fun (x1, _) =>
 (if (!x1) = true then (
 none)
 else (
 (nck a0).bind fun _ =>
 ((rd h (padd a0 0) 0)).bind fun x2 =>
 (F143 N (x2, h)).bind fun (x3, h4) =>
 (some (h4 ++ [O.map 0 [] []]) : Option H).bind fun h5 =>
 (ck1 x3).bind fun _ =>
 (ck1 (.map (h4).length)).bind fun _ =>
 (some (h5 ++ [O.cells 0 [x3, (.map (h4).length)]]) : Option H).bind fun h6 =>
 ((rd h6 (.ptr (h5).length 0 0) 0)).bind fun x7 =>
 (slen x7).bind fun n8 =>
 (L110_0 N N ((.ptr (h5).length 0 0), x7, n8, 0, h6)).bind fun (x27, h28) =>
 some (x27, h28)))
abbrev ks110 : List SK := [.one .ref]
abbrev rs110 : List SK := [.one .ref]
def e110 (N : Nat) : Env := ⟨Tryz.prog, 39, inTab [5], inTab [], natTab [(5, 5), (27, 5), (34, 5)], inTab [], calTab [(63, .ro (mkFun ks63 rs63 (F63 N))), (143, .full (mkFun ks143 rs143 (F143 N)))], altTab [], loopTab [(5, ⟨⟨.normal, [3, 20, 21, 22], [.one .ref, .one .ref, .one (.int .i64), .one (.int .i64)], [], []⟩, [⟨(.exit 0), [3], [.one .ref], [], []⟩], L110_0 N⟩)], natTab [], inTab [2, 8]⟩
theorem l110_0 (N : Nat) : ∀ A, (e110 N).lp (lid (loopAt Tryz.f110 0)) = some A → LoopOk (e110 N) N (loopAt Tryz.f110 0) A :=
  loopOk_of (A := ⟨⟨.normal, [3, 20, 21, 22], [.one .ref, .one .ref, .one (.int .i64), .one (.int .i64)], [], []⟩, [⟨(.exit 0), [3], [.one .ref], [], []⟩], L110_0 N⟩) (by kernel_rfl) (fun _ => rfl) (fun _ _ => by kernel_rfl)
theorem fine110 (N : Nat) : Fine (e110 N) N 110 Tryz.f110 ks110 rs110 (F110 N) :=
  ⟨Tryz.func110, by kernel_rfl, by kernel_rfl, by kernel_rfl, loops_of ⟨l110_0 N, trivial⟩, by kernel_rfl, by kernel_rfl, fun _ => by kernel_rfl⟩
theorem good110 (N : Nat) : Go.L.Good (e110 N) := good_of ⟨gd63 N, ⟨gd143 N, trivial⟩⟩
theorem gd110 (N : Nat) : CalOk Tryz.prog 110 (.full (mkFun ks110 rs110 (F110 N))) := mkFun_good (fine110 N) (good110 N)

/-! ### 111: table.Table).Add -/
def L111_0 (N : Nat) : Nat → V × Int × Int × Int × Int × H → Option ((H) ⊕ (Int × Int × Int × H))
 | 0, _ => none
 | n + 1, (x21, x22, x23, x24, x25, h26) =>
 (if (decide (x23 < x22)) = true then (
 (nck x21).bind fun _ =>
 ((rd h26 (padd x21 0) 0)).bind fun x27 =>
 (sidx x27 x23 3).bind fun q28 =>
 (L.asBool (rd h26 (padd q28 1) 0)).bind fun x29 =>
 (if (!x29) = true then (
 (L.asInt .i64 (rd h26 (padd q28 0) 0)).bind fun x32 =>
 some ((decide (x32 < 4611686018427387903)), h26))
 else (
 some (false, h26))).bind fun (b30, h31) =>
 (if b30 = true then (
 (wr h31 (padd q28 1) [(.bool true)]).bind fun h33 =>
 (L.asInt .i64 (rd h33 (padd q28 0) 0)).bind fun x34 =>
 (wr h33 (padd q28 0) [(.int .i64 (IntKind.i64.wrap (x34 + 1)))]).bind fun h35 =>
 (F64 N (x21, x23, h35)).bind fun (x36, x37, _) =>
 some (.inr (0, x36, x37, h35)))
 else (
 L111_0 N n (x21, x22, (IntKind.i64.wrap (x23 + 1)), x24, x25, h31))))
 else (
 some (.inl h26)))
def F111 (N : Nat) : V × H → Option (Int × Int × Int × H)
 | (a0, h) =>
 (F63 N (a0, h)).bind fun (x1, _) =>
 (if (!x1) = true then (
 none)
 else (
 (nck a0).bind fun _ =>
 ((rd h (padd a0 0) 0)).bind fun x2 =>
 (slen x2).bind fun n3 =>
 (L111_0 N N (a0, n3, 0, 0, 0, h)).bind fun o38 => match o38 with
 | .inl h39 => (
 none)
 | .inr (x40, x41, x42, h43) => (
 some (x41, x42, x40, h43))))
abbrev ks111 : List SK := [.one .ref]
abbrev rs111 : List SK := [.agg [(.int .i64), (.int .i64)], .one (.int .i64)]
def e111 (N : Nat) : Env := ⟨Tryz.prog, 51, inTab [2], inTab [], natTab [(2, 2)], inTab [], calTab [(63, .ro (mkFun ks63 rs63 (F63 N))), (64, .ro (mkFun ks64 rs64 (F64 N)))], altTab [], loopTab [(4, ⟨⟨.normal, [0, 2, 14, 15], [.one .ref, .lp 2 0, .one (.int .i64), .one (.int .i64)], [2], [.cells [(.int .i64), (.int .i64)]]⟩, [⟨(.exit 0), [], [], [], []⟩, ⟨.ret, [2, 3], [.lp 2 0, .one (.int .i64)], [2], [.cells [(.int .i64), (.int .i64)]]⟩], L111_0 N⟩)], natTab [], inTab [2, 12]⟩
theorem l111_0 (N : Nat) : ∀ A, (e111 N).lp (lid (loopAt Tryz.f111 0)) = some A → LoopOk (e111 N) N (loopAt Tryz.f111 0) A :=
  loopOk_of (A := ⟨⟨.normal, [0, 2, 14, 15], [.one .ref, .lp 2 0, .one (.int .i64), .one (.int .i64)], [2], [.cells [(.int .i64), (.int .i64)]]⟩, [⟨(.exit 0), [], [], [], []⟩, ⟨.ret, [2, 3], [.lp 2 0, .one (.int .i64)], [2], [.cells [(.int .i64), (.int .i64)]]⟩], L111_0 N⟩) (by kernel_rfl) (fun _ => rfl) (fun _ _ => by kernel_rfl)
theorem fine111 (N : Nat) : Fine (e111 N) N 111 Tryz.f111 ks111 rs111 (F111 N) :=
  ⟨Tryz.func111, by kernel_rfl, by kernel_rfl, by kernel_rfl, loops_of ⟨l111_0 N, trivial⟩, by kernel_rfl, by kernel_rfl, fun _ => by kernel_rfl⟩
theorem good111 (N : Nat) : Go.L.Good (e111 N) := good_of ⟨gd63 N, ⟨gd64 N, trivial⟩⟩
theorem gd111 (N : Nat) : CalOk Tryz.prog 111 (.full (mkFun ks111 rs111 (F111 N))) := mkFun_good (fine111 N) (good111 N)

/-! ### 222: core.Core).Find$1 -/
def F222 (N : Nat) : Int × Int × Bool × V × H → Option (Bool × H)
 | (a0_0, a0_1, a0_2, a1, h) =>
 (L.asInt .i64 (rd h a1 0)).bind fun x1 =>
 (L.asInt .i64 (rd h a1 1)).bind fun x2 =>
 some (((a0_0 == x1) && ((a0_1 == x2) && true)), h)
abbrev ks222 : List SK := [.agg [(.int .i64), (.int .i64), .bool], .one .ref]
abbrev rs222 : List SK := [.one .bool]
def e222 (N : Nat) : Env := ⟨Tryz.prog, 8, inTab [2], inTab [], natTab [(2, 2), (4, 2)], inTab [], calTab [], altTab [], loopTab [], natTab [], inTab []⟩
theorem fine222 (N : Nat) : Fine (e222 N) N 222 Tryz.f222 ks222 rs222 (F222 N) :=
  ⟨Tryz.func222, by kernel_rfl, by kernel_rfl, by kernel_rfl, loops_of trivial, by kernel_rfl, by kernel_rfl, fun _ => by kernel_rfl⟩
theorem good222 (N : Nat) : Go.L.Good (e222 N) := good_of trivial
theorem gd222 (N : Nat) : CalOk Tryz.prog 222 (.ro (mkFun ks222 rs222 (F222 N))) := mkFun_ro (fine222 N) (good222 N) (by kernel_rfl)

/-! ### 221: api.Entry] -/
abbrev rs221_16 : List SK := [.one .bool]
def D221_16 (N : Nat) : List (Nat × (List V → H → Option (Tup rs221_16 H))) := [(222, (mkFun ks222 rs222 (F222 N)).F)]
theorem dg221_16 (N : Nat) : CalOk Tryz.prog 16777232 (.dyn (dynF rs221_16 (D221_16 N))) := dyn_good ⟨mkFun_good (fine222 N) (good222 N), trivial⟩
def L221_0 (N : Nat) : Nat → V × V × Int × Int × H → Option (H)
 | 0, _ => none
 | n + 1, (x13, x14, x15, x16, h17) =>
 (if (decide (x16 < x15)) = true then (
 (sidx x13 x16 3).bind fun q18 =>
 (L.asInt .i64 (rd h17 q18 0)).bind fun x19 =>
 (L.asInt .i64 (rd h17 q18 1)).bind fun x20 =>
 (L.asBool (rd h17 q18 2)).bind fun x21 =>
 Option.bind (α := Bool × H) (dynC rs221_16 (D221_16 N) x14 [(.agg [(.int .i64 x19), (.int .i64 x20), (.bool x21)])] h17) fun (x22, h23) =>
 (if x22 = true then (
 none)
 else (
 L221_0 N n (x13, x14, x15, (IntKind.i64.wrap (x16 + 1)), h23))))
 else (
 some h17))
def F221 (N : Nat) : V × V × H → Option (Int × H)
 | (a0, a1, h) =>
 (slen a0).bind fun n1 =>
 (L221_0 N N (a0, a1, n1, 0, h)).bind fun h24 =>
 some ((-1), h24)
abbrev ks221 : List SK := [.one .ref, .one .ref]
abbrev rs221 : List SK := [.one (.int .i64)]
def e221 (N : Nat) : Env := ⟨Tryz.prog, 19, inTab [], inTab [], natTab [], inTab [], calTab [(16777232, .dyn (dynF rs221_16 (D221_16 N)))], altTab [], loopTab [(2, ⟨⟨.normal, [0, 1, 7, 8], [.one .ref, .one .ref, .one (.int .i64), .one (.int .i64)], [], []⟩, [⟨(.exit 0), [], [], [], []⟩], L221_0 N⟩)], natTab [], inTab [5]⟩
theorem l221_0 (N : Nat) : ∀ A, (e221 N).lp (lid (loopAt Tryz.f221 0)) = some A → LoopOk (e221 N) N (loopAt Tryz.f221 0) A :=
  loopOk_of (A := ⟨⟨.normal, [0, 1, 7, 8], [.one .ref, .one .ref, .one (.int .i64), .one (.int .i64)], [], []⟩, [⟨(.exit 0), [], [], [], []⟩], L221_0 N⟩) (by kernel_rfl) (fun _ => rfl) (fun _ _ => by kernel_rfl)
theorem fine221 (N : Nat) : Fine (e221 N) N 221 Tryz.f221 ks221 rs221 (F221 N) :=
  ⟨Tryz.func221, by kernel_rfl, by kernel_rfl, by kernel_rfl, loops_of ⟨l221_0 N, trivial⟩, by kernel_rfl, by kernel_rfl, fun _ => by kernel_rfl⟩
theorem good221 (N : Nat) : Go.L.Good (e221 N) := good_of ⟨dg221_16 N, trivial⟩
theorem gd221 (N : Nat) : CalOk Tryz.prog 221 (.full (mkFun ks221 rs221 (F221 N))) := mkFun_good (fine221 N) (good221 N)

/-! ### 206: core.Core).Find -/
def L206_0 (N : Nat) : Nat → V × V × Int × H → Option (H)
 | 0, _ => none
 | n + 1, (x13, x14, x15, h16) =>
 (if (decide (x15 < 3)) = true then (
 (nck x13).bind fun _ =>
 (aidx (padd x13 2) x15 3 1).bind fun q17 =>
 ((rd h16 (padd q17 0) 0)).bind fun x18 =>
 (F76 N (x18, h16)).bind fun (x19, h20) =>
 (F221 N (x19, (.fn 222 [x14]), h20)).bind fun (x21, h22) =>
 (if (decide (x21 ≥ 0)) = true then (
 none)
 else (
 L206_0 N n (x13, x14, (IntKind.i64.wrap (x15 + 1)), h22))))
 else (
 some h16))
def F206 (N : Nat) : V × Int × Int × H → Option (Int × Int × Int × H)
 | (a0, a1_0, a1_1, h) =>
 (some (h ++ [O.cells 0 [(.int .i64 a1_0), (.int .i64 a1_1)]]) : Option H).bind fun h1 =>
 (F74 N (a0, h1)).bind fun (x2, _) =>
 (if (!x2) = true then (
 none)
 else (
 (L206_0 N N (a0, (.ptr (h).length 0 0), 0, h1)).bind fun h23 =>
 some (0, 0, 3, h23)))
abbrev ks206 : List SK := [.one .ref, .agg [(.int .i64), (.int .i64)]]
abbrev rs206 : List SK := [.one (.int .i64), .one (.int .i64), .one (.int .i64)]
def e206 (N : Nat) : Env := ⟨Tryz.prog, 30, inTab [], inTab [], natTab [], inTab [], calTab [(74, .ro (mkFun ks74 rs74 (F74 N))), (76, .full (mkFun ks76 rs76 (F76 N))), (221, .full (mkFun ks221 rs221 (F221 N)))], altTab [], loopTab [(4, ⟨⟨.normal, [0, 3, 12], [.one .ref, .one .ref, .one (.int .i64)], [], []⟩, [⟨(.exit 0), [], [], [], []⟩], L206_0 N⟩)], natTab [], inTab [2, 8]⟩
theorem l206_0 (N : Nat) : ∀ A, (e206 N).lp (lid (loopAt Tryz.f206 0)) = some A → LoopOk (e206 N) N (loopAt Tryz.f206 0) A :=
  loopOk_of (A := ⟨⟨.normal, [0, 3, 12], [.one .ref, .one .ref, .one (.int .i64)], [], []⟩, [⟨(.exit 0), [], [], [], []⟩], L206_0 N⟩) (by kernel_rfl) (fun _ => rfl) (fun _ _ => by kernel_rfl)
theorem fine206 (N : Nat) : Fine (e206 N) N 206 Tryz.f206 ks206 rs206 (F206 N) :=
  ⟨Tryz.func206, by kernel_rfl, by kernel_rfl, by kernel_rfl, loops_of ⟨l206_0 N, trivial⟩, by kernel_rfl, by kernel_rfl, fun _ => by kernel_rfl⟩
theorem good206 (N : Nat) : Go.L.Good (e206 N) := good_of ⟨gd74 N, ⟨gd76 N, ⟨gd221 N, trivial⟩⟩⟩
theorem gd206 (N : Nat) : CalOk Tryz.prog 206 (.full (mkFun ks206 rs206 (F206 N))) := mkFun_good (fine206 N) (good206 N)

/-! ### 172: core.Core).stands -/
def F172 (N : Nat) : V × Int × Int × H → Option (Bool × H)
 | (a0, a1_0, a1_1, h) =>
 (F206 N (a0, a1_0, a1_1, h)).bind fun (x1, x2, x3, h4) =>
 some ((x3 == 0), h4)
abbrev ks172 : List SK := [.one .ref, .agg [(.int .i64), (.int .i64)]]
abbrev rs172 : List SK := [.one .bool]
def e172 (N : Nat) : Env := ⟨Tryz.prog, 17, inTab [3], inTab [], natTab [(3, 3)], inTab [], calTab [(206, .full (mkFun ks206 rs206 (F206 N)))], altTab [], loopTab [], natTab [], inTab []⟩
theorem fine172 (N : Nat) : Fine (e172 N) N 172 Tryz.f172 ks172 rs172 (F172 N) :=
  ⟨Tryz.func172, by kernel_rfl, by kernel_rfl, by kernel_rfl, loops_of trivial, by kernel_rfl, by kernel_rfl, fun _ => by kernel_rfl⟩
theorem good172 (N : Nat) : Go.L.Good (e172 N) := good_of ⟨gd206 N, trivial⟩
theorem gd172 (N : Nat) : CalOk Tryz.prog 172 (.full (mkFun ks172 rs172 (F172 N))) := mkFun_good (fine172 N) (good172 N)

/-! ### 173: api.Entry]).Push -/
def F173 (N : Nat) : V × Int × Int × Bool × H → Option (Int × H)
 | (a0, a1_0, a1_1, a1_2, h) =>
 (some (h ++ [O.cells 0 [(.int .i64 a1_0), (.int .i64 a1_1), (.bool a1_2)]]) : Option H).bind fun h1 =>
 (F165 N (a0, (.sl (h).length 0 0 1 3 (some 1)), h1)).bind fun (x2, h3) =>
 some (x2, h3)
abbrev ks173 : List SK := [.one .ref, .agg [(.int .i64), (.int .i64), .bool]]
abbrev rs173 : List SK := [.one (.int .i64)]
def e173 (N : Nat) : Env := ⟨Tryz.prog, 9, inTab [3], inTab [], natTab [(3, 3)], inTab [], calTab [(165, .full (mkFun ks165 rs165 (F165 N)))], altTab [], loopTab [], natTab [], inTab []⟩
theorem fine173 (N : Nat) : Fine (e173 N) N 173 Tryz.f173 ks173 rs173 (F173 N) :=
  ⟨Tryz.func173, by kernel_rfl, by kernel_rfl, by kernel_rfl, loops_of trivial, by kernel_rfl, by kernel_rfl, fun _ => by kernel_rfl⟩
theorem good173 (N : Nat) : Go.L.Good (e173 N) := good_of ⟨gd165 N, trivial⟩
theorem gd173 (N : Nat) : CalOk Tryz.prog 173 (.full (mkFun ks173 rs173 (F173 N))) := mkFun_good (fine173 N) (good173 N)

/-! ### 144: core.Core).Push -/
def F144 (N : Nat) : V × Int × Int × Int × H → Option (Int × H)
 | (a0, a1, a2_0, a2_1, h) =>
 (F74 N (a0, h)).bind fun (x1, _) =>
 (if (!x1) = true then (
 some (true, h))
 else (
 (F75 100 (a1, [])).bind fun (x4, _) =>
 some ((!x4), h))).bind fun (b2, h3) =>
 (if b2 = true then (
 some (true, h3))
 else (
 (F172 N (a0, a2_0, a2_1, h3)).bind fun (x7, h8) =>
 some (x7, h8))).bind fun (b5, h6) =>
 (if b5 = true then (
 none)
 else (
 (nck a0).bind fun _ =>
 (aidx (padd a0 2) a1 3 1).bind fun q9 =>
 ((rd h6 (padd q9 0) 0)).bind fun x10 =>
 (F173 N (x10, a2_0, a2_1, false, h6)).bind fun (x11, h12) =>
 some (x11, h12)))
abbrev ks144 : List SK := [.one .ref, .one (.int .i64), .agg [(.int .i64), (.int .i64)]]
abbrev rs144 : List SK := [.one (.int .i64)]
def e144 (N : Nat) : Env := ⟨Tryz.prog, 30, inTab [5], inTab [], natTab [(5, 5)], inTab [], calTab [(74, .ro (mkFun ks74 rs74 (F74 N))), (75, .pure (mkP ks75 rs75 (F75 100))), (172, .full (mkFun ks172 rs172 (F172 N))), (173, .full (mkFun ks173 rs173 (F173 N)))], altTab [], loopTab [], natTab [], inTab [2]⟩
theorem fine144 (N : Nat) : Fine (e144 N) N 144 Tryz.f144 ks144 rs144 (F144 N) :=
  ⟨Tryz.func144, by kernel_rfl, by kernel_rfl, by kernel_rfl, loops_of trivial, by kernel_rfl, by kernel_rfl, fun _ => by kernel_rfl⟩
theorem good144 (N : Nat) : Go.L.Good (e144 N) := good_of ⟨gd74 N, ⟨gd75, ⟨gd172 N, ⟨gd173 N, trivial⟩⟩⟩⟩
theorem gd144 (N : Nat) : CalOk Tryz.prog 144 (.full (mkFun ks144 rs144 (F144 N))) := mkFun_good (fine144 N) (good144 N)

/-! ### 112: node.Node).ready -/
def F112 (N : Nat) : V × V × H → Option (H)
 | (a0, a1, h) =>
 (nck a0).bind fun _ =>
 ((rd h (padd a0 5) 0)).bind fun x1 =>
 (nck a1).bind fun _ =>
 (L.asInt .i64 (rd h (padd a1 3) 0)).bind fun x2 =>
 (sidx x1 x2 4).bind fun q3 =>
 ((rd h (padd q3 0) 0)).bind fun x4 =>
 (nck a1).bind fun _ =>
 (L.asInt .i64 (rd h (padd a1 2) 0)).bind fun x5 =>
 (nck a1).bind fun _ =>
 (L.asInt .i64 (rd h (padd a1 0) 0)).bind fun x6 =>
 (L.asInt .i64 (rd h (padd a1 0) 1)).bind fun x7 =>
 (F144 N (x4, x5, x6, x7, h)).bind fun (x8, h9) =>
 (nck a1).bind fun _ =>
 (wr h9 (padd a1 7) [(.int .i64 1)]).bind fun h10 =>
 some h10
abbrev ks112 : List SK := [.one .ref, .one .ref]
abbrev rs112 : List SK := []
def e112 (N : Nat) : Env := ⟨Tryz.prog, 27, inTab [], inTab [], natTab [], inTab [], calTab [(144, .full (mkFun ks144 rs144 (F144 N)))], altTab [], loopTab [], natTab [], inTab []⟩
theorem fine112 (N : Nat) : Fine (e112 N) N 112 Tryz.f112 ks112 rs112 (F112 N) :=
  ⟨Tryz.func112, by kernel_rfl, by kernel_rfl, by kernel_rfl, loops_of trivial, by kernel_rfl, by kernel_rfl, fun _ => by kernel_rfl⟩
theorem good112 (N : Nat) : Go.L.Good (e112 N) := good_of ⟨gd144 N, trivial⟩
theorem gd112 (N : Nat) : CalOk Tryz.prog 112 (.full (mkFun ks112 rs112 (F112 N))) := mkFun_good (fine112 N) (good112 N)

/-! ### 174: log.Log).given -/
def F174 (N : Nat) : V × H → Option (Bool × H)
 | (a0, h) =>
 (isNil a0).bind fun b1 =>
 (if (!b1) = true then (
 (nck a0).bind fun _ =>
 (L.asInt .i64 (rd h (padd a0 0) 0)).bind fun x4 =>
 some ((decide (x4 > 0)), h))
 else (
 some (false, h))).bind fun (b2, h3) =>
 some (b2, h3)
abbrev ks174 : List SK := [.one .ref]
abbrev rs174 : List SK := [.one .bool]
def e174 (N : Nat) : Env := ⟨Tryz.prog, 12, inTab [], inTab [], natTab [], inTab [], calTab [], altTab [], loopTab [], natTab [], inTab []⟩
theorem fine174 (N : Nat) : Fine (e174 N) N 174 Tryz.f174 ks174 rs174 (F174 N) :=
  ⟨Tryz.func174, by kernel_rfl, by kernel_rfl, by kernel_rfl, loops_of trivial, by kernel_rfl, by kernel_rfl, fun _ => by kernel_rfl⟩
theorem good174 (N : Nat) : Go.L.Good (e174 N) := good_of trivial
theorem gd174 (N : Nat) : CalOk Tryz.prog 174 (.ro (mkFun ks174 rs174 (F174 N))) := mkFun_ro (fine174 N) (good174 N) (by kernel_rfl)

/-! ### 175: log.kind -/
def F175 (N : Nat) : Int × H → Option (Bool × H)
 | (a0, h) =>
 (if (decide (a0 ≥ 1)) = true then (
 some ((decide (a0 ≤ 10)), h))
 else (
 some (false, h))).bind fun (b1, h2) =>
 some (b1, h2)
abbrev ks175 : List SK := [.one (.int .i64)]
abbrev rs175 : List SK := [.one .bool]
def e175 (N : Nat) : Env := ⟨Tryz.prog, 9, inTab [], inTab [], natTab [], inTab [], calTab [], altTab [], loopTab [], natTab [], inTab []⟩
theorem fine175 (N : Nat) : Fine (e175 N) N 175 Tryz.f175 ks175 rs175 (F175 N) :=
  ⟨Tryz.func175, by kernel_rfl, by kernel_rfl, by kernel_rfl, loops_of trivial, by kernel_rfl, by kernel_rfl, fun _ => by kernel_rfl⟩
theorem good175 (N : Nat) : Go.L.Good (e175 N) := good_of trivial
theorem gd175 : CalOk Tryz.prog 175 (.pure (mkP ks175 rs175 (F175 100))) := mkP_good (fine175 100) (good175 100) (by kernel_rfl) (by kernel_rfl)

/-! ### 145: log.Log).Add -/
def F145 (N : Nat) : V × Int × Int × Int × Int × Int × Int × H → Option (Int × H)
 | (a0, a1_0, a1_1, a1_2, a1_3, a1_4, a1_5, h) =>
 (F174 N (a0, h)).bind fun (x1, _) =>
 (if (!x1) = true then (
 some (true, h))
 else (
 (F175 100 (a1_0, [])).bind fun (x4, _) =>
 some ((!x4), h))).bind fun (b2, h3) =>
 (if b2 = true then (
 some (true, h3))
 else (
 some ((decide (a1_4 < 0)), h3))).bind fun (b5, h6) =>
 (if b5 = true then (
 some (true, h6))
 else (
 some ((decide (a1_4 > 4611686018427387903)), h6))).bind fun (b7, h8) =>
 (if b7 = true then (
 some (true, h8))
 else (
 some ((decide (a1_5 < 0)), h8))).bind fun (b9, h10) =>
 (if b9 = true then (
 some (true, h10))
 else (
 some ((decide (a1_5 > 4611686018427387903)), h10))).bind fun (b11, h12) =>
 (if b11 = true then (
 none)
 else (
 (nck a0).bind fun _ =>
 (aidx (padd a0 3) a1_0 11 1).bind fun q13 =>
 (L.asInt .i64 (rd h12 q13 0)).bind fun x14 =>
 (nck a0).bind fun _ =>
 (aidx (padd a0 3) a1_0 11 1).bind fun q15 =>
 (wr h12 q15 [(.int .i64 (IntKind.i64.wrap (x14 + 1)))]).bind fun h16 =>
 (nck a0).bind fun _ =>
 (aidx (padd a0 14) a1_0 11 1).bind fun q17 =>
 (L.asInt .i64 (rd h16 q17 0)).bind fun x18 =>
 (nck a0).bind fun _ =>
 (aidx (padd a0 14) a1_0 11 1).bind fun q19 =>
 (wr h16 q19 [(.int .i64 (Int.tmod (IntKind.i64.wrap (x18 + a1_4)) 4611686018427387904))]).bind fun h20 =>
 (nck a0).bind fun _ =>
 (aidx (padd a0 25) a1_0 11 1).bind fun q21 =>
 (L.asInt .i64 (rd h20 q21 0)).bind fun x22 =>
 (nck a0).bind fun _ =>
 (aidx (padd a0 25) a1_0 11 1).bind fun q23 =>
 (wr h20 q23 [(.int .i64 (Int.tmod (IntKind.i64.wrap (x22 + a1_5)) 4611686018427387904))]).bind fun h24 =>
 (nck a0).bind fun _ =>
 ((rd h24 (padd a0 1) 0)).bind fun x25 =>
 (slen x25).bind fun n26 =>
 (nck a0).bind fun _ =>
 (L.asInt .i64 (rd h24 (padd a0 0) 0)).bind fun x27 =>
 (if (decide (n26 < x27)) = true then (
 (nck a0).bind fun _ =>
 ((rd h24 (padd a0 1) 0)).bind fun x28 =>
 (happ h24 x28 6 1 [(.int .i64 a1_0), (.int .i64 a1_1), (.int .i64 a1_2), (.int .i64 a1_3), (.int .i64 a1_4), (.int .i64 a1_5)]).bind fun (v29, h30) =>
 (nck a0).bind fun _ =>
 (ck1 v29).bind fun _ =>
 (wr h30 (padd a0 1) [v29]).bind fun h31 =>
 some (0, h31))
 else (
 none))))
abbrev ks145 : List SK := [.one .ref, .agg [(.int .i64), (.int .i64), (.int .i64), (.int .i64), (.int .i64), (.int .i64)]]
abbrev rs145 : List SK := [.one (.int .i64)]
def e145 (N : Nat) : Env := ⟨Tryz.prog, 122, inTab [3, 95], inTab [], natTab [(3, 3), (9, 3), (15, 3), (20, 3), (25, 3), (30, 3), (35, 3), (46, 3), (49, 3), (55, 3), (63, 3), (66, 3), (72, 3)], inTab [], calTab [(174, .ro (mkFun ks174 rs174 (F174 N))), (175, .pure (mkP ks175 rs175 (F175 100)))], altTab [], loopTab [], natTab [], inTab [2, 9, 10, 11]⟩
theorem fine145 (N : Nat) : Fine (e145 N) N 145 Tryz.f145 ks145 rs145 (F145 N) :=
  ⟨Tryz.func145, by kernel_rfl, by kernel_rfl, by kernel_rfl, loops_of trivial, by kernel_rfl, by kernel_rfl, fun _ => by kernel_rfl⟩
theorem good145 (N : Nat) : Go.L.Good (e145 N) := good_of ⟨gd174 N, ⟨gd175, trivial⟩⟩
theorem gd145 (N : Nat) : CalOk Tryz.prog 145 (.full (mkFun ks145 rs145 (F145 N))) := mkFun_good (fine145 N) (good145 N)

/-! ### 113: node.Node).event -/
def F113 (N : Nat) : V × Int × Int × Int × Int × Int × Int × H → Option (H)
 | (a0, a1, a2, a3_0, a3_1, a4, a5, h) =>
 (nck a0).bind fun _ =>
 ((rd h (padd a0 10) 0)).bind fun x1 =>
 (F145 N (x1, a1, a2, a3_0, a3_1, a4, a5, h)).bind fun (x2, h3) =>
 some h3
abbrev ks113 : List SK := [.one .ref, .one (.int .i64), .one (.int .i64), .agg [(.int .i64), (.int .i64)], .one (.int .i64), .one (.int .i64)]
abbrev rs113 : List SK := []
def e113 (N : Nat) : Env := ⟨Tryz.prog, 23, inTab [9], inTab [], natTab [(9, 9)], inTab [], calTab [(145, .full (mkFun ks145 rs145 (F145 N)))], altTab [], loopTab [], natTab [], inTab []⟩
theorem fine113 (N : Nat) : Fine (e113 N) N 113 Tryz.f113 ks113 rs113 (F113 N) :=
  ⟨Tryz.func113, by kernel_rfl, by kernel_rfl, by kernel_rfl, loops_of trivial, by kernel_rfl, by kernel_rfl, fun _ => by kernel_rfl⟩
theorem good113 (N : Nat) : Go.L.Good (e113 N) := good_of ⟨gd145 N, trivial⟩
theorem gd113 (N : Nat) : CalOk Tryz.prog 113 (.full (mkFun ks113 rs113 (F113 N))) := mkFun_good (fine113 N) (good113 N)

/-! ### 61: node.Node).spawn -/
def F61 (N : Nat) : V × Int × Int × Int × Int × V × H → Option (Int × Int × Int × H)
 | (a0, a1, a2, a3, a4, a5, h) =>
 (nck a0).bind fun _ =>
 ((rd h (padd a0 1) 0)).bind fun x1 =>
 (sidx x1 a3 2).bind fun q2 =>
 (L.asStr (rd h q2 0)).bind fun x3 =>
 ((rd h q2 1)).bind fun x4 =>
 (F109 N (x3, x4, a4, a5, h)).bind fun (x5, x6, h7) =>
 (if (x6 != 0) = true then (
 none)
 else (
 (nck a0).bind fun _ =>
 ((rd h7 (padd a0 2) 0)).bind fun x8 =>
 (F110 N (x8, h7)).bind fun (x9, h10) =>
 (F111 N (x9, h10)).bind fun (x11, x12, x13, h14) =>
 (if (x13 != 0) = true then (
 none)
 else (
 (nck a0).bind fun _ =>
 ((rd h14 (padd a0 3) 0)).bind fun x15 =>
 (F45 N (x15, a1, a2, h14)).bind fun (x16, h17) =>
 (if (x16 != 0) = true then (
 none)
 else (
 (nck a0).bind fun _ =>
 (ck1 x9).bind fun _ =>
 (wr h17 (padd a0 2) [x9]).bind fun h18 =>
 (F98 N h18).bind fun (x19, h20) =>
 (ck1 x5).bind fun _ =>
 (ck1 x19).bind fun _ =>
 (some (h20 ++ [O.cells 0 [(.int .i64 x11), (.int .i64 x12), (.int .i64 a2), (.int .i64 a1), (.int .i64 a3), x5, x19, (.int .i64 0), (.bool false), (.bool false), (.int .i64 0), (.int .i64 (-1))]]) : Option H).bind fun h21 =>
 (nck a0).bind fun _ =>
 ((rd h21 (padd a0 6) 0)).bind fun x22 =>
 (hmapset h21 x22 (.int .i64 x11) (.ptr (h20).length 0 0)).bind fun h23 =>
 (F112 N (a0, (.ptr (h20).length 0 0), h23)).bind fun h24 =>
 (F113 N (a0, 1, a1, x11, x12, a2, a3, h24)).bind fun h25 =>
 some (x11, x12, 0, h25)))))))
abbrev ks61 : List SK := [.one .ref, .one (.int .i64), .one (.int .i64), .one (.int .i64), .one (.int .i64), .one .ref]
abbrev rs61 : List SK := [.agg [(.int .i64), (.int .i64)], .one (.int .i64)]
def e61 (N : Nat) : Env := ⟨Tryz.prog, 91, inTab [12, 17], inTab [], natTab [(12, 12), (17, 17), (78, 17)], inTab [], calTab [(109, .full (mkFun ks109 rs109 (F109 N))), (110, .full (mkFun ks110 rs110 (F110 N))), (111, .full (mkFun ks111 rs111 (F111 N))), (45, .full (mkFun ks45 rs45 (F45 N))), (98, .gro (mkFun ks98 rs98 (F98 N))), (112, .full (mkFun ks112 rs112 (F112 N))), (113, .full (mkFun ks113 rs113 (F113 N)))], altTab [], loopTab [], natTab [], inTab [3, 7, 10]⟩
theorem fine61 (N : Nat) : Fine (e61 N) N 61 Tryz.f61 ks61 rs61 (F61 N) :=
  ⟨Tryz.func61, by kernel_rfl, by kernel_rfl, by kernel_rfl, loops_of trivial, by kernel_rfl, by kernel_rfl, fun _ => by kernel_rfl⟩
theorem good61 (N : Nat) : Go.L.Good (e61 N) := good_of ⟨gd109 N, ⟨gd110 N, ⟨gd111 N, ⟨gd45 N, ⟨gdg98 N, ⟨gd112 N, ⟨gd113 N, trivial⟩⟩⟩⟩⟩⟩⟩
theorem gd61 (N : Nat) : CalOk Tryz.prog 61 (.full (mkFun ks61 rs61 (F61 N))) := mkFun_good (fine61 N) (good61 N)

/-! ### 22: node.Node).Spawn -/
def F22 (N : Nat) : V × Int × Int × Int × Int × V × H → Option (Int × Int × Int × H)
 | (a0, a1, a2, a3, a4, a5, h) =>
 (F56 N (a0, h)).bind fun (x1, _) =>
 (if (x1 != 0) = true then (
 none)
 else (
 (if (decide (a3 < 0)) = true then (
 some (true, h))
 else (
 (nck a0).bind fun _ =>
 ((rd h (padd a0 1) 0)).bind fun x4 =>
 (slen x4).bind fun n5 =>
 some ((decide (a3 ≥ n5)), h))).bind fun (b2, h3) =>
 (if b2 = true then (
 none)
 else (
 (nck a0).bind fun _ =>
 ((rd h3 (padd a0 5) 0)).bind fun x6 =>
 (slen x6).bind fun n7 =>
 (F60 100 (a1, n7, [])).bind fun (x8, x9, _) =>
 (F60 100 (a2, 3, [])).bind fun (x10, x11, _) =>
 (F61 N (a0, x8, x10, a3, a4, a5, h3)).bind fun (x12, x13, x14, h15) =>
 (if (x14 != 0) = true then (
 none)
 else (
 (F62 N (a5, h15)).bind fun (x16, _) =>
 (ck1 x16).bind fun _ =>
 (F59 N (a0, [(.int .i64 2), (.int .i64 x8), (.int .i64 x10), (.int .i64 a3), (.int .i64 a4), (.int .i64 x12), (.int .i64 x13), x16, (.int .i64 0), (.bool false), .nils, .nils, (.int .i64 0), (.int .i64 0), (.int .i64 0), (.int .i64 0), (.int .i64 0), (.int .i64 0), (.int .i64 0), (.int .i64 0), (.cplx .f64 0 0), (.str (ByteArray.mk #[])), (.int .i64 0), (.int .i64 0), .nils, (.int .i64 0), (.int .i64 0), .nils, .nils], h15)).bind fun h17 =>
 some (x12, x13, 0, h17)))))))
abbrev ks22 : List SK := [.one .ref, .one (.int .i64), .one (.int .i64), .one (.int .i64), .one (.int .i64), .one .ref]
abbrev rs22 : List SK := [.agg [(.int .i64), (.int .i64)], .one (.int .i64)]
def e22 (N : Nat) : Env := ⟨Tryz.prog, 79, inTab [12, 19], inTab [], natTab [(12, 12), (19, 19)], inTab [], calTab [(56, .ro (mkFun ks56 rs56 (F56 N))), (60, .pure (mkP ks60 rs60 (F60 100))), (61, .full (mkFun ks61 rs61 (F61 N))), (62, .ro (mkFun ks62 rs62 (F62 N))), (59, .full (mkFun ks59 rs59 (F59 N)))], altTab [], loopTab [], natTab [], inTab [3, 5, 10]⟩
theorem fine22 (N : Nat) : Fine (e22 N) N 22 Tryz.f22 ks22 rs22 (F22 N) :=
  ⟨Tryz.func22, by kernel_rfl, by kernel_rfl, by kernel_rfl, loops_of trivial, by kernel_rfl, by kernel_rfl, fun _ => by kernel_rfl⟩
theorem good22 (N : Nat) : Go.L.Good (e22 N) := good_of ⟨gd56 N, ⟨gd60, ⟨gd61 N, ⟨gd62 N, ⟨gd59 N, trivial⟩⟩⟩⟩⟩
theorem gd22 (N : Nat) : CalOk Tryz.prog 22 (.full (mkFun ks22 rs22 (F22 N))) := mkFun_good (fine22 N) (good22 N)
theorem gl22 (N : Nat) : CalOk Tryz.prog 22 (.full (mkFun ks22 rs22 (locF false ks22 rs22 (F22 N)))) := loc_full (gd22 N)


end
end Go.Proofs.YtgipaccfnlklcaaGreatDoor
