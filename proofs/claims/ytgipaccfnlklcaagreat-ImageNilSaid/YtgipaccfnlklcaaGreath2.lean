/- The functions that the law reaches, as plain ones (printed by gen.py). -/
import Derived.Test.YtgipaccfnlklcaaGreath1
set_option linter.unusedVariables false
set_option maxRecDepth 100000
namespace Go.Proofs.YtgipaccfnlklcaaGreat
noncomputable section
open Go.L

/-! ### 312: timer.Load -/
def L312_0 (N : Nat) : Nat → V × Int × Int × H → Option (V × H)
 | 0, _ => none
 | n + 1, (x11, x12, x13, h14) =>
 (if (decide (x13 < x12)) = true then (
 none)
 else (
 some (x11, h14)))
def F312 (N : Nat) : Int × V × H → Option (V × Int × H)
 | (a0, a1, h) =>
 (F105 N (a0, h)).bind fun (x1, x2, h3) =>
 (if (x2 != 0) = true then (
 none)
 else (
 (slen a1).bind fun n4 =>
 (if (decide (n4 > 256)) = true then (
 none)
 else (
 (some (h3 ++ [O.map 0 [] []]) : Option H).bind fun h5 =>
 (slen a1).bind fun n6 =>
 (L312_0 N N (x1, n6, 0, h5)).bind fun (x15, h16) =>
 some (x15, 0, h16)))))
abbrev ks312 : List SK := [.one (.int .i64), .one .ref]
abbrev rs312 : List SK := [.one .ref, .one (.int .i64)]
def e312 (N : Nat) : Env := ⟨Tryz.prog, 101, inTab [10], inTab [], natTab [(10, 10), (31, 10), (36, 10), (42, 10), (47, 10), (63, 10), (69, 10), (75, 10), (82, 10)], inTab [], calTab [(105, .gro (mkFun ks105 rs105 (F105 N)))], altTab [], loopTab [(8, ⟨⟨.normal, [6, 25, 26], [.one .ref, .one (.int .i64), .one (.int .i64)], [], []⟩, [⟨(.exit 0), [6], [.one .ref], [], []⟩], L312_0 N⟩)], natTab [], inTab [3, 5, 9, 10, 11, 12, 13, 14, 15, 16, 17, 18]⟩
theorem l312_0 (N : Nat) : ∀ A, (e312 N).lp (lid (loopAt Tryz.f312 0)) = some A → LoopOk (e312 N) N (loopAt Tryz.f312 0) A :=
  loopOk_of (A := ⟨⟨.normal, [6, 25, 26], [.one .ref, .one (.int .i64), .one (.int .i64)], [], []⟩, [⟨(.exit 0), [6], [.one .ref], [], []⟩], L312_0 N⟩) (by kernel_rfl) (fun _ => rfl) (fun _ _ => by kernel_rfl)
theorem fine312 (N : Nat) : Fine (e312 N) N 312 Tryz.f312 ks312 rs312 (F312 N) :=
  ⟨Tryz.func312, by kernel_rfl, by kernel_rfl, by kernel_rfl, loops_of ⟨l312_0 N, trivial⟩, by kernel_rfl, by kernel_rfl, fun _ => by kernel_rfl⟩
theorem good312 (N : Nat) : Go.L.Good (e312 N) := good_of ⟨gdg105 N, trivial⟩
theorem gdg312 (N : Nat) : CalOk Tryz.prog 312 (.gro (mkFun ks312 rs312 (F312 N))) := mkFun_groC (fine312 N) (good312 N) (by kernel_rfl)

/-! ### 213: node.Node).wound -/
def L213_0 (N : Nat) : Nat → V × Int × Int × V × V × V × V × V × V × V × V × V × V × Int × Int × V × H → Option (V × V × V × V × V × V × V × V × V × V × V × Int × Int × V × H)
 | 0, _ => none
 | n + 1, (x19, x20, x21, x22, x23, x24, x25, x26, x27, x28, x29, x30, x31, x32, x33, x34, h35) =>
 (if (decide (x21 < x20)) = true then (
 none)
 else (
 some (x19, x22, x23, x24, x25, x26, x27, x28, x29, x30, x31, x32, x33, x34, h35)))
def F213 (N : Nat) : V × V × V × V × V × V × V × V × V × V × V × Int × Int × V × V × V × H → Option (V × Bool × H)
 | (a0, a1_0, a1_1, a1_2, a1_3, a1_4, a1_5, a1_6, a1_7, a1_8, a1_9, a1_10, a1_11, a1_12, a2, a3, h) =>
 (slen a2).bind fun n1 =>
 (L213_0 N N (a2, n1, 0, a1_0, a1_1, a1_2, a1_3, a1_4, a1_5, a1_6, a1_7, a1_8, a1_9, a1_10, a1_11, a1_12, h)).bind fun (x36, x37, x38, x39, x40, x41, x42, x43, x44, x45, x46, x47, x48, x49, h50) =>
 (F312 N (x47, x36, h50)).bind fun (x51, x52, h53) =>
 some (x51, (x52 == 0), h53)
abbrev ks213 : List SK := [.one .ref, .agg [.ref, .ref, .ref, .ref, .ref, .ref, .ref, .ref, .ref, .ref, (.int .i64), (.int .i64), .ref], .one .ref, .one .ref]
abbrev rs213 : List SK := [.one .ref, .one .bool]
def e213 (N : Nat) : Env := ⟨Tryz.prog, 53, inTab [5, 11], inTab [], natTab [(5, 5), (11, 11), (20, 11), (22, 5), (27, 11), (34, 11), (40, 11), (44, 5)], inTab [], calTab [(312, .gro (mkFun ks312 rs312 (F312 N)))], altTab [], loopTab [(2, ⟨⟨.normal, [2, 5, 15, 16], [.one .ref, .lp 5 0, .one (.int .i64), .one (.int .i64)], [5], [.cells [.ref, .ref, .ref, .ref, .ref, .ref, .ref, .ref, .ref, .ref, (.int .i64), (.int .i64), .ref]]⟩, [⟨(.exit 0), [2, 5], [.one .ref, .lp 5 0], [5], [.cells [.ref, .ref, .ref, .ref, .ref, .ref, .ref, .ref, .ref, .ref, (.int .i64), (.int .i64), .ref]]⟩], L213_0 N⟩)], natTab [], inTab [3, 4, 5, 6, 7]⟩
theorem l213_0 (N : Nat) : ∀ A, (e213 N).lp (lid (loopAt Tryz.f213 0)) = some A → LoopOk (e213 N) N (loopAt Tryz.f213 0) A :=
  loopOk_of (A := ⟨⟨.normal, [2, 5, 15, 16], [.one .ref, .lp 5 0, .one (.int .i64), .one (.int .i64)], [5], [.cells [.ref, .ref, .ref, .ref, .ref, .ref, .ref, .ref, .ref, .ref, (.int .i64), (.int .i64), .ref]]⟩, [⟨(.exit 0), [2, 5], [.one .ref, .lp 5 0], [5], [.cells [.ref, .ref, .ref, .ref, .ref, .ref, .ref, .ref, .ref, .ref, (.int .i64), (.int .i64), .ref]]⟩], L213_0 N⟩) (by kernel_rfl) (fun _ => rfl) (fun _ _ => by kernel_rfl)
theorem fine213 (N : Nat) : Fine (e213 N) N 213 Tryz.f213 ks213 rs213 (F213 N) :=
  ⟨Tryz.func213, by kernel_rfl, by kernel_rfl, by kernel_rfl, loops_of ⟨l213_0 N, trivial⟩, by kernel_rfl, by kernel_rfl, fun _ => by kernel_rfl⟩
theorem good213 (N : Nat) : Go.L.Good (e213 N) := good_of ⟨gdg312 N, trivial⟩
theorem gdg213 (N : Nat) : CalOk Tryz.prog 213 (.gro (mkFun ks213 rs213 (F213 N))) := mkFun_groC (fine213 N) (good213 N) (by kernel_rfl)

/-! ### 314: api.Tie] -/
def L314_0 (N : Nat) : Nat → Int × Int × H → Option (H)
 | 0, _ => none
 | n + 1, (x7, x8, h9) =>
 (if (decide (x8 < x7)) = true then (
 none)
 else (
 some h9))
def F314 (N : Nat) : V × V × H → Option (Bool × H)
 | (a0, a1, h) =>
 (slen a0).bind fun n1 =>
 (slen a1).bind fun n2 =>
 (if (n1 != n2) = true then (
 none)
 else (
 (slen a0).bind fun n3 =>
 (L314_0 N N (n3, 0, h)).bind fun h10 =>
 some (true, h10)))
abbrev ks314 : List SK := [.one .ref, .one .ref]
abbrev rs314 : List SK := [.one .bool]
def e314 (N : Nat) : Env := ⟨Tryz.prog, 26, inTab [], inTab [], natTab [], inTab [], calTab [], altTab [], loopTab [(4, ⟨⟨.normal, [12, 13], [.one (.int .i64), .one (.int .i64)], [], []⟩, [⟨(.exit 0), [], [], [], []⟩], L314_0 N⟩)], natTab [], inTab [2, 5, 6, 7, 8]⟩
theorem l314_0 (N : Nat) : ∀ A, (e314 N).lp (lid (loopAt Tryz.f314 0)) = some A → LoopOk (e314 N) N (loopAt Tryz.f314 0) A :=
  loopOk_of (A := ⟨⟨.normal, [12, 13], [.one (.int .i64), .one (.int .i64)], [], []⟩, [⟨(.exit 0), [], [], [], []⟩], L314_0 N⟩) (by kernel_rfl) (fun _ => rfl) (fun _ _ => by kernel_rfl)
theorem fine314 (N : Nat) : Fine (e314 N) N 314 Tryz.f314 ks314 rs314 (F314 N) :=
  ⟨Tryz.func314, by kernel_rfl, by kernel_rfl, by kernel_rfl, loops_of ⟨l314_0 N, trivial⟩, by kernel_rfl, by kernel_rfl, fun _ => by kernel_rfl⟩
theorem good314 (N : Nat) : Go.L.Good (e314 N) := good_of trivial
theorem gd314 (N : Nat) : CalOk Tryz.prog 314 (.ro (mkFun ks314 rs314 (F314 N))) := mkFun_ro (fine314 N) (good314 N) (by kernel_rfl)

/-! ### 214: tie.Load -/
def L214_0 (N : Nat) : Nat → V × V × Int × Int × H → Option (V × V × H)
 | 0, _ => none
 | n + 1, (x9, x10, x11, x12, h13) =>
 (if (decide (x12 < x11)) = true then (
 none)
 else (
 some (x9, x10, h13)))
def F214 (N : Nat) : V × H → Option (V × Int × H)
 | (a0, h) =>
 (F100 N h).bind fun (x1, h2) =>
 (slen a0).bind fun n3 =>
 (L214_0 N N (a0, x1, n3, 0, h2)).bind fun (x14, x15, h16) =>
 Option.bind (α := (V × H)) (locF true ks56 rs56 (F56 N) ((x15, h16) : V × H)) fun (x17, h18) =>
 (F314 N (x17, x14, h18)).bind fun (x19, _) =>
 (if (!x19) = true then (
 none)
 else (
 (slen x14).bind fun n20 =>
 (if (decide (n20 > 1024)) = true then (
 none)
 else (
 some (x15, 0, h18)))))
abbrev ks214 : List SK := [.one .ref]
abbrev rs214 : List SK := [.one .ref, .one (.int .i64)]
def e214 (N : Nat) : Env := ⟨Tryz.prog, 78, inTab [6], inTab [], natTab [(6, 6), (14, 6), (19, 6), (25, 6), (30, 6), (34, 6), (41, 6), (43, 6), (50, 6), (52, 6), (54, 6), (57, 6), (61, 6), (63, 6)], inTab [], calTab [(100, .gro (mkFun ks100 rs100 (F100 N))), (56, .gro (mkFun ks56 rs56 (locF true ks56 rs56 (F56 N)))), (314, .ro (mkFun ks314 rs314 (F314 N)))], altTab [], loopTab [(3, ⟨⟨.normal, [0, 4, 9, 10], [.one .ref, .one .ref, .one (.int .i64), .one (.int .i64)], [], []⟩, [⟨(.exit 0), [0, 4], [.one .ref, .one .ref], [], []⟩], L214_0 N⟩)], natTab [], inTab [4, 5, 6, 7, 8, 9, 10, 11, 12, 14, 16]⟩
theorem l214_0 (N : Nat) : ∀ A, (e214 N).lp (lid (loopAt Tryz.f214 0)) = some A → LoopOk (e214 N) N (loopAt Tryz.f214 0) A :=
  loopOk_of (A := ⟨⟨.normal, [0, 4, 9, 10], [.one .ref, .one .ref, .one (.int .i64), .one (.int .i64)], [], []⟩, [⟨(.exit 0), [0, 4], [.one .ref, .one .ref], [], []⟩], L214_0 N⟩) (by kernel_rfl) (fun _ => rfl) (fun _ _ => by kernel_rfl)
theorem fine214 (N : Nat) : Fine (e214 N) N 214 Tryz.f214 ks214 rs214 (F214 N) :=
  ⟨Tryz.func214, by kernel_rfl, by kernel_rfl, by kernel_rfl, loops_of ⟨l214_0 N, trivial⟩, by kernel_rfl, by kernel_rfl, fun _ => by kernel_rfl⟩
theorem good214 (N : Nat) : Go.L.Good (e214 N) := good_of ⟨gdg100 N, ⟨gl56 N, ⟨gd314 N, trivial⟩⟩⟩
theorem gdg214 (N : Nat) : CalOk Tryz.prog 214 (.gro (mkFun ks214 rs214 (F214 N))) := mkFun_groC (fine214 N) (good214 N) (by kernel_rfl)

/-! ### 98: node.Node).timed -/
def L98_0 (N : Nat) : Nat → V × V × Int × Int × V × V × V × V × V × V × V × V × V × V × Int × Int × V × H → Option (V × V × V × V × V × V × V × V × V × V × V × Int × Int × V × H)
 | 0, _ => none
 | n + 1, (x40, x41, x42, x43, x44, x45, x46, x47, x48, x49, x50, x51, x52, x53, x54, x55, x56, h57) =>
 (if (decide (x43 < x42)) = true then (
 (sidx x49 x43 1).bind fun q58 =>
 (L.asInt .i64 (rd h57 q58 0)).bind fun x59 =>
 (sidx x48 x43 3).bind fun q60 =>
 (rdN h57 q60 3).bind fun cs61 =>
 (F203 N (x44, x59, cs61, h57)).bind fun (x62, x63, h64) =>
 (sidx x52 x43 1).bind fun q65 =>
 ((rd h64 q65 0)).bind fun x66 =>
 (F213 N (x40, x44, x45, x46, x47, x48, x49, x50, x51, x52, x53, x54, x55, x56, x66, x41, h64)).bind fun (x67, x68, h69) =>
 (if (!x68) = true then (
 none)
 else (
 (nck x40).bind fun _ =>
 ((rd h69 (padd x40 5) 0)).bind fun x70 =>
 (sidx x50 x43 1).bind fun q71 =>
 (L.asInt .i64 (rd h69 q71 0)).bind fun x72 =>
 (sidx x51 x43 1).bind fun q73 =>
 (L.asInt .i64 (rd h69 q73 0)).bind fun x74 =>
 (ck1 x62).bind fun _ =>
 (ck1 x67).bind fun _ =>
 (sidx x70 x43 4).bind fun q75 =>
 (wr h69 q75 [x62, x67, (.int .i64 x72), (.int .i64 x74)]).bind fun h76 =>
 L98_0 N n (x40, x41, x42, (IntKind.i64.wrap (x43 + 1)), x44, x45, x46, x47, x48, x49, x50, x51, x52, x53, x54, x55, x56, h76))))
 else (
 some (x40, x44, x45, x46, x47, x48, x49, x50, x51, x52, x53, x54, x55, x56, h57)))
def L98_1 (N : Nat) : Nat → V × V × Int × Int × H → Option (V × V × H)
 | 0, _ => none
 | n + 1, (x101, x102, x103, x104, h105) =>
 (if (decide (x104 < x103)) = true then (
 none)
 else (
 some (x101, x102, h105)))
def F98 (N : Nat) : V × V × V × V × V × V × V × V × V × V × V × Int × Int × V × H → Option (Bool × H)
 | (a0, a1_0, a1_1, a1_2, a1_3, a1_4, a1_5, a1_6, a1_7, a1_8, a1_9, a1_10, a1_11, a1_12, h) =>
 (some (h ++ [O.map 0 [] []]) : Option H).bind fun h1 =>
 (slen a1_4).bind fun n2 =>
 (L98_0 N N (a0, (.map (h).length), n2, 0, a1_0, a1_1, a1_2, a1_3, a1_4, a1_5, a1_6, a1_7, a1_8, a1_9, a1_10, a1_11, a1_12, h1)).bind fun (x77, x78, x79, x80, x81, x82, x83, x84, x85, x86, x87, x88, x89, x90, h91) =>
 (F214 N (x87, h91)).bind fun (x92, x93, h94) =>
 (if (x93 != 0) = true then (
 none)
 else (
 (slen x87).bind fun n95 =>
 (L98_1 N N (x77, x92, n95, 0, h94)).bind fun (x106, x107, h108) =>
 (nck x106).bind fun _ =>
 (ck1 x107).bind fun _ =>
 (wr h108 (padd x106 4) [x107]).bind fun h109 =>
 some (true, h109)))
abbrev ks98 : List SK := [.one .ref, .agg [.ref, .ref, .ref, .ref, .ref, .ref, .ref, .ref, .ref, .ref, (.int .i64), (.int .i64), .ref]]
abbrev rs98 : List SK := [.one .bool]
def e98 (N : Nat) : Env := ⟨Tryz.prog, 123, inTab [3, 14], inTab [], natTab [(3, 3), (14, 14), (16, 3), (23, 3), (25, 3), (30, 3), (41, 3), (59, 3), (64, 3), (73, 3), (80, 3), (88, 14), (94, 14), (100, 14), (102, 3), (107, 14), (112, 14)], inTab [], calTab [(203, .full (mkFun ks203 rs203 (F203 N))), (213, .gro (mkFun ks213 rs213 (F213 N))), (214, .gro (mkFun ks214 rs214 (F214 N)))], altTab [], loopTab [(3, ⟨⟨.normal, [0, 3, 5, 18, 19], [.one .ref, .lp 3 0, .one .ref, .one (.int .i64), .one (.int .i64)], [3], [.cells [.ref, .ref, .ref, .ref, .ref, .ref, .ref, .ref, .ref, .ref, (.int .i64), (.int .i64), .ref]]⟩, [⟨(.exit 0), [0, 3], [.one .ref, .lp 3 0], [3], [.cells [.ref, .ref, .ref, .ref, .ref, .ref, .ref, .ref, .ref, .ref, (.int .i64), (.int .i64), .ref]]⟩], L98_0 N⟩), (15, ⟨⟨.normal, [0, 11, 82, 83], [.one .ref, .one .ref, .one (.int .i64), .one (.int .i64)], [], []⟩, [⟨(.exit 2), [0, 11], [.one .ref, .one .ref], [], []⟩], L98_1 N⟩)], natTab [], inTab [8, 13, 16, 17, 18, 19]⟩
theorem l98_0 (N : Nat) : ∀ A, (e98 N).lp (lid (loopAt Tryz.f98 0)) = some A → LoopOk (e98 N) N (loopAt Tryz.f98 0) A :=
  loopOk_of (A := ⟨⟨.normal, [0, 3, 5, 18, 19], [.one .ref, .lp 3 0, .one .ref, .one (.int .i64), .one (.int .i64)], [3], [.cells [.ref, .ref, .ref, .ref, .ref, .ref, .ref, .ref, .ref, .ref, (.int .i64), (.int .i64), .ref]]⟩, [⟨(.exit 0), [0, 3], [.one .ref, .lp 3 0], [3], [.cells [.ref, .ref, .ref, .ref, .ref, .ref, .ref, .ref, .ref, .ref, (.int .i64), (.int .i64), .ref]]⟩], L98_0 N⟩) (by kernel_rfl) (fun _ => rfl) (fun _ _ => by kernel_rfl)
theorem l98_1 (N : Nat) : ∀ A, (e98 N).lp (lid (loopAt Tryz.f98 1)) = some A → LoopOk (e98 N) N (loopAt Tryz.f98 1) A :=
  loopOk_of (A := ⟨⟨.normal, [0, 11, 82, 83], [.one .ref, .one .ref, .one (.int .i64), .one (.int .i64)], [], []⟩, [⟨(.exit 2), [0, 11], [.one .ref, .one .ref], [], []⟩], L98_1 N⟩) (by kernel_rfl) (fun _ => rfl) (fun _ _ => by kernel_rfl)
theorem fine98 (N : Nat) : Fine (e98 N) N 98 Tryz.f98 ks98 rs98 (F98 N) :=
  ⟨Tryz.func98, by kernel_rfl, by kernel_rfl, by kernel_rfl, loops_of ⟨l98_0 N, ⟨l98_1 N, trivial⟩⟩, by kernel_rfl, by kernel_rfl, fun _ => by kernel_rfl⟩
theorem good98 (N : Nat) : Go.L.Good (e98 N) := good_of ⟨gd203 N, ⟨gdg213 N, ⟨gdg214 N, trivial⟩⟩⟩
theorem gd98 (N : Nat) : CalOk Tryz.prog 98 (.full (mkFun ks98 rs98 (F98 N))) := mkFun_good (fine98 N) (good98 N)

/-! ### 84: wire.Writer).Count -/
def L84_0 (N : Nat) : Nat → V × Int × H → Option (V × Int × H)
 | 0, _ => none
 | n + 1, (x8, x9, h10) =>
 (if (decide (x9 ≥ 128)) = true then (
 (nck x8).bind fun _ =>
 ((rd h10 (padd x8 0) 0)).bind fun x11 =>
 (happ h10 x11 1 1 [(.int .u8 (IntKind.u8.wrap (((BitVec.ofInt IntKind.u8.bits (IntKind.u8.wrap x9)) ||| (BitVec.ofInt IntKind.u8.bits 128)).toNat)))]).bind fun (v12, h13) =>
 (nck x8).bind fun _ =>
 (ck1 v12).bind fun _ =>
 (wr h13 (padd x8 0) [v12]).bind fun h14 =>
 L84_0 N n (x8, (Int.fdiv x9 (2 ^ (min (Int.toNat 7) IntKind.u64.bits))), h14))
 else (
 some (x8, x9, h10)))
def F84 (N : Nat) : V × Int × H → Option (H)
 | (a0, a1, h) =>
 (L84_0 N N (a0, (IntKind.u64.wrap a1), h)).bind fun (x15, x16, h17) =>
 (nck x15).bind fun _ =>
 ((rd h17 (padd x15 0) 0)).bind fun x18 =>
 (happ h17 x18 1 1 [(.int .u8 (IntKind.u8.wrap x16))]).bind fun (v19, h20) =>
 (nck x15).bind fun _ =>
 (ck1 v19).bind fun _ =>
 (wr h20 (padd x15 0) [v19]).bind fun h21 =>
 some h21
abbrev ks84 : List SK := [.one .ref, .one (.int .i64)]
abbrev rs84 : List SK := []
def e84 (N : Nat) : Env := ⟨Tryz.prog, 34, inTab [17, 30], inTab [], natTab [], inTab [], calTab [], altTab [], loopTab [(1, ⟨⟨.normal, [0, 4], [.one .ref, .one (.int .u64)], [], []⟩, [⟨(.exit 0), [0, 4], [.one .ref, .one (.int .u64)], [], []⟩], L84_0 N⟩)], natTab [], inTab []⟩
theorem l84_0 (N : Nat) : ∀ A, (e84 N).lp (lid (loopAt Tryz.f84 0)) = some A → LoopOk (e84 N) N (loopAt Tryz.f84 0) A :=
  loopOk_of (A := ⟨⟨.normal, [0, 4], [.one .ref, .one (.int .u64)], [], []⟩, [⟨(.exit 0), [0, 4], [.one .ref, .one (.int .u64)], [], []⟩], L84_0 N⟩) (by kernel_rfl) (fun _ => rfl) (fun _ _ => by kernel_rfl)
theorem fine84 (N : Nat) : Fine (e84 N) N 84 Tryz.f84 ks84 rs84 (F84 N) :=
  ⟨Tryz.func84, by kernel_rfl, by kernel_rfl, by kernel_rfl, loops_of ⟨l84_0 N, trivial⟩, by kernel_rfl, by kernel_rfl, fun _ => by kernel_rfl⟩
theorem good84 (N : Nat) : Go.L.Good (e84 N) := good_of trivial
theorem gd84 (N : Nat) : CalOk Tryz.prog 84 (.full (mkFun ks84 rs84 (F84 N))) := mkFun_good (fine84 N) (good84 N)

/-! ### 89: image.writer).counts -/
def L89_0 (N : Nat) : Nat → V × V × Int × Int × H → Option (H)
 | 0, _ => none
 | n + 1, (x10, x11, x12, x13, h14) =>
 (if (decide (x13 < x12)) = true then (
 (sidx x11 x13 1).bind fun q15 =>
 (L.asInt .i64 (rd h14 q15 0)).bind fun x16 =>
 (nck x10).bind fun _ =>
 (F84 N ((padd x10 0), x16, h14)).bind fun h17 =>
 L89_0 N n (x10, x11, x12, (IntKind.i64.wrap (x13 + 1)), h17))
 else (
 some h14))
def F89 (N : Nat) : V × V × H → Option (H)
 | (a0, a1, h) =>
 (slen a1).bind fun n1 =>
 (L89_0 N N (a0, a1, n1, 0, h)).bind fun h18 =>
 some h18
abbrev ks89 : List SK := [.one .ref, .one .ref]
abbrev rs89 : List SK := []
def e89 (N : Nat) : Env := ⟨Tryz.prog, 18, inTab [], inTab [], natTab [], inTab [], calTab [(84, .full (mkFun ks84 rs84 (F84 N)))], altTab [], loopTab [(1, ⟨⟨.normal, [0, 6, 7, 8], [.one .ref, .one .ref, .one (.int .i64), .one (.int .i64)], [], []⟩, [⟨(.exit 0), [], [], [], []⟩], L89_0 N⟩)], natTab [], inTab []⟩
theorem l89_0 (N : Nat) : ∀ A, (e89 N).lp (lid (loopAt Tryz.f89 0)) = some A → LoopOk (e89 N) N (loopAt Tryz.f89 0) A :=
  loopOk_of (A := ⟨⟨.normal, [0, 6, 7, 8], [.one .ref, .one .ref, .one (.int .i64), .one (.int .i64)], [], []⟩, [⟨(.exit 0), [], [], [], []⟩], L89_0 N⟩) (by kernel_rfl) (fun _ => rfl) (fun _ _ => by kernel_rfl)
theorem fine89 (N : Nat) : Fine (e89 N) N 89 Tryz.f89 ks89 rs89 (F89 N) :=
  ⟨Tryz.func89, by kernel_rfl, by kernel_rfl, by kernel_rfl, loops_of ⟨l89_0 N, trivial⟩, by kernel_rfl, by kernel_rfl, fun _ => by kernel_rfl⟩
theorem good89 (N : Nat) : Go.L.Good (e89 N) := good_of ⟨gd84 N, trivial⟩
theorem gd89 (N : Nat) : CalOk Tryz.prog 89 (.full (mkFun ks89 rs89 (F89 N))) := mkFun_good (fine89 N) (good89 N)

/-! ### 83: image.writer).list -/
def F83 (N : Nat) : V × V × H → Option (H)
 | (a0, a1, h) =>
 (nck a0).bind fun _ =>
 (slen a1).bind fun n1 =>
 (F84 N ((padd a0 0), n1, h)).bind fun h2 =>
 (F89 N (a0, a1, h2)).bind fun h3 =>
 some h3
abbrev ks83 : List SK := [.one .ref, .one .ref]
abbrev rs83 : List SK := []
def e83 (N : Nat) : Env := ⟨Tryz.prog, 13, inTab [], inTab [], natTab [], inTab [], calTab [(84, .full (mkFun ks84 rs84 (F84 N))), (89, .full (mkFun ks89 rs89 (F89 N)))], altTab [], loopTab [], natTab [], inTab []⟩
theorem fine83 (N : Nat) : Fine (e83 N) N 83 Tryz.f83 ks83 rs83 (F83 N) :=
  ⟨Tryz.func83, by kernel_rfl, by kernel_rfl, by kernel_rfl, loops_of trivial, by kernel_rfl, by kernel_rfl, fun _ => by kernel_rfl⟩
theorem good83 (N : Nat) : Go.L.Good (e83 N) := good_of ⟨gd84 N, ⟨gd89 N, trivial⟩⟩
theorem gd83 (N : Nat) : CalOk Tryz.prog 83 (.full (mkFun ks83 rs83 (F83 N))) := mkFun_good (fine83 N) (good83 N)

/-! ### 87: image.writer).core -/
def L87_1 (N : Nat) : Nat → V × Int × List V × Int × Int × Int × V × V × V × V × V × V × V × V × V × V × Int × Int × V × H → Option (V × Int × List V × Int × V × V × V × V × V × V × V × V × V × V × Int × Int × V × H)
 | 0, _ => none
 | n + 1, (x45, x46, cs47, x48, x49, x50, x51, x52, x53, x54, x55, x56, x57, x58, x59, x60, x61, x62, x63, h64) =>
 (if (decide (x50 < x49)) = true then (
 none)
 else (
 some (x45, x46, cs47, x48, x51, x52, x53, x54, x55, x56, x57, x58, x59, x60, x61, x62, x63, h64)))
def L87_0 (N : Nat) : Nat → V × Int × List V × Int × V × V × V × V × V × V × V × V × V × V × Int × Int × V × H → Option (V × Int × V × V × V × V × V × V × V × V × V × V × Int × Int × V × H)
 | 0, _ => none
 | n + 1, (x83, x84, cs85, x86, x87, x88, x89, x90, x91, x92, x93, x94, x95, x96, x97, x98, x99, h100) =>
 (if (decide (x86 < 3)) = true then (
 (if 0 ≤ x86 then (if x86 < 3 then (
 ((cs85)[Int.toNat x86 * 1]?).bind fun x101 =>
 (nck x83).bind fun _ =>
 (slen x101).bind fun n102 =>
 (F84 N ((padd x83 0), n102, h100)).bind fun h103 =>
 (slen x101).bind fun n104 =>
 (L87_1 N N (x83, x84, cs85, x86, n104, 0, x87, x88, x89, x90, x91, x92, x93, x94, x95, x96, x97, x98, x99, h103)).bind fun (x105, x106, cs107, x108, x109, x110, x111, x112, x113, x114, x115, x116, x117, x118, x119, x120, x121, h122) =>
 L87_0 N n (x105, x106, cs107, (IntKind.i64.wrap (x108 + 1)), x109, x110, x111, x112, x113, x114, x115, x116, x117, x118, x119, x120, x121, h122)) else none) else none))
 else (
 some (x83, x84, x87, x88, x89, x90, x91, x92, x93, x94, x95, x96, x97, x98, x99, h100)))
def L87_2 (N : Nat) : Nat → Int × Int × H → Option (H)
 | 0, _ => none
 | n + 1, (x156, x157, h158) =>
 (if (decide (x157 < x156)) = true then (
 none)
 else (
 some h158))
def F87 (N : Nat) : V × V × V × V × V × V × V × V × V × V × V × Int × Int × V × Int × H → Option (H)
 | (a0, a1_0, a1_1, a1_2, a1_3, a1_4, a1_5, a1_6, a1_7, a1_8, a1_9, a1_10, a1_11, a1_12, a2, h) =>
 (sidx a1_4 a2 3).bind fun q1 =>
 (rdN h q1 3).bind fun cs2 =>
 (L87_0 N N (a0, a2, cs2, 0, a1_0, a1_1, a1_2, a1_3, a1_4, a1_5, a1_6, a1_7, a1_8, a1_9, a1_10, a1_11, a1_12, h)).bind fun (x123, x124, x125, x126, x127, x128, x129, x130, x131, x132, x133, x134, x135, x136, x137, h138) =>
 (sidx x130 x124 1).bind fun q139 =>
 (L.asInt .i64 (rd h138 q139 0)).bind fun x140 =>
 (sidx x131 x124 1).bind fun q141 =>
 (L.asInt .i64 (rd h138 q141 0)).bind fun x142 =>
 (sidx x132 x124 1).bind fun q143 =>
 (L.asInt .i64 (rd h138 q143 0)).bind fun x144 =>
 (sidx x133 x124 1).bind fun q145 =>
 ((rd h138 q145 0)).bind fun x146 =>
 (slen x146).bind fun n147 =>
 (some (h138 ++ [O.cells 0 [(.int .i64 x140), (.int .i64 x142), (.int .i64 x144), (.int .i64 n147)]]) : Option H).bind fun h148 =>
 (F89 N (x123, (.sl (h138).length 0 0 4 1 (some 4)), h148)).bind fun h149 =>
 (sidx x133 x124 1).bind fun q150 =>
 ((rd h149 q150 0)).bind fun x151 =>
 (slen x151).bind fun n152 =>
 (L87_2 N N (n152, 0, h149)).bind fun h159 =>
 some h159
abbrev ks87 : List SK := [.one .ref, .agg [.ref, .ref, .ref, .ref, .ref, .ref, .ref, .ref, .ref, .ref, (.int .i64), (.int .i64), .ref], .one (.int .i64)]
abbrev rs87 : List SK := []
def e87 (N : Nat) : Env := ⟨Tryz.prog, 94, inTab [4, 9, 11], inTab [], natTab [(4, 4), (9, 9), (11, 11), (12, 4), (33, 9), (37, 9), (43, 4), (48, 4), (53, 4), (58, 4), (66, 4), (77, 11), (79, 11), (84, 11), (90, 11)], inTab [], calTab [(84, .full (mkFun ks84 rs84 (F84 N))), (89, .full (mkFun ks89 rs89 (F89 N)))], altTab [], loopTab [(2, ⟨⟨.normal, [0, 2, 4, 16, 17], [.one .ref, .one (.int .i64), .lp 4 0, .blk, .one (.int .i64)], [4], [.cells [.ref, .ref, .ref, .ref, .ref, .ref, .ref, .ref, .ref, .ref, (.int .i64), (.int .i64), .ref]]⟩, [⟨(.exit 0), [0, 2, 4], [.one .ref, .one (.int .i64), .lp 4 0], [4], [.cells [.ref, .ref, .ref, .ref, .ref, .ref, .ref, .ref, .ref, .ref, (.int .i64), (.int .i64), .ref]]⟩], L87_0 N⟩), (6, ⟨⟨.normal, [0, 2, 4, 16, 17, 27, 28], [.one .ref, .one (.int .i64), .lp 4 0, .blk, .one (.int .i64), .one (.int .i64), .one (.int .i64)], [4], [.cells [.ref, .ref, .ref, .ref, .ref, .ref, .ref, .ref, .ref, .ref, (.int .i64), (.int .i64), .ref]]⟩, [⟨(.exit 2), [0, 2, 4, 16, 17], [.one .ref, .one (.int .i64), .lp 4 0, .blk, .one (.int .i64)], [4], [.cells [.ref, .ref, .ref, .ref, .ref, .ref, .ref, .ref, .ref, .ref, (.int .i64), (.int .i64), .ref]]⟩], L87_1 N⟩), (14, ⟨⟨.normal, [71, 72], [.one (.int .i64), .one (.int .i64)], [], []⟩, [⟨(.exit 4), [], [], [], []⟩], L87_2 N⟩)], natTab [], inTab [7, 8, 9, 10, 15, 16, 17, 18, 19]⟩
theorem l87_0 (N : Nat) : ∀ A, (e87 N).lp (lid (loopAt Tryz.f87 0)) = some A → LoopOk (e87 N) N (loopAt Tryz.f87 0) A :=
  loopOk_of (A := ⟨⟨.normal, [0, 2, 4, 16, 17], [.one .ref, .one (.int .i64), .lp 4 0, .blk, .one (.int .i64)], [4], [.cells [.ref, .ref, .ref, .ref, .ref, .ref, .ref, .ref, .ref, .ref, (.int .i64), (.int .i64), .ref]]⟩, [⟨(.exit 0), [0, 2, 4], [.one .ref, .one (.int .i64), .lp 4 0], [4], [.cells [.ref, .ref, .ref, .ref, .ref, .ref, .ref, .ref, .ref, .ref, (.int .i64), (.int .i64), .ref]]⟩], L87_0 N⟩) (by kernel_rfl) (fun _ => rfl) (fun _ _ => by kernel_rfl)
theorem l87_1 (N : Nat) : ∀ A, (e87 N).lp (lid (loopAt Tryz.f87 1)) = some A → LoopOk (e87 N) N (loopAt Tryz.f87 1) A :=
  loopOk_of (A := ⟨⟨.normal, [0, 2, 4, 16, 17, 27, 28], [.one .ref, .one (.int .i64), .lp 4 0, .blk, .one (.int .i64), .one (.int .i64), .one (.int .i64)], [4], [.cells [.ref, .ref, .ref, .ref, .ref, .ref, .ref, .ref, .ref, .ref, (.int .i64), (.int .i64), .ref]]⟩, [⟨(.exit 2), [0, 2, 4, 16, 17], [.one .ref, .one (.int .i64), .lp 4 0, .blk, .one (.int .i64)], [4], [.cells [.ref, .ref, .ref, .ref, .ref, .ref, .ref, .ref, .ref, .ref, (.int .i64), (.int .i64), .ref]]⟩], L87_1 N⟩) (by kernel_rfl) (fun _ => rfl) (fun _ _ => by kernel_rfl)
theorem l87_2 (N : Nat) : ∀ A, (e87 N).lp (lid (loopAt Tryz.f87 2)) = some A → LoopOk (e87 N) N (loopAt Tryz.f87 2) A :=
  loopOk_of (A := ⟨⟨.normal, [71, 72], [.one (.int .i64), .one (.int .i64)], [], []⟩, [⟨(.exit 4), [], [], [], []⟩], L87_2 N⟩) (by kernel_rfl) (fun _ => rfl) (fun _ _ => by kernel_rfl)
theorem fine87 (N : Nat) : Fine (e87 N) N 87 Tryz.f87 ks87 rs87 (F87 N) :=
  ⟨Tryz.func87, by kernel_rfl, by kernel_rfl, by kernel_rfl, loops_of ⟨l87_0 N, ⟨l87_1 N, ⟨l87_2 N, trivial⟩⟩⟩, by kernel_rfl, by kernel_rfl, fun _ => by kernel_rfl⟩
theorem good87 (N : Nat) : Go.L.Good (e87 N) := good_of ⟨gd84 N, ⟨gd89 N, trivial⟩⟩
theorem gd87 (N : Nat) : CalOk Tryz.prog 87 (.full (mkFun ks87 rs87 (F87 N))) := mkFun_good (fine87 N) (good87 N)

/-! ### 173: wire.Sum -/
def L173_0 (N : Nat) : Nat → ByteArray × Int × Int × Int × Int × H → Option (Int × Int × H)
 | 0, _ => none
 | n + 1, (x8, x9, x10, x11, x12, h13) =>
 (if (decide (x12 < x11)) = true then (
 (if 0 ≤ x12 then (x8[Int.toNat x12]?.bind fun c14 =>
 L173_0 N n (x8, (Int.tmod (IntKind.i64.wrap (x9 + (IntKind.i64.wrap ((UInt8.toNat c14 : Nat) : Int)))) 65521), (Int.tmod (IntKind.i64.wrap (x10 + (Int.tmod (IntKind.i64.wrap (x9 + (IntKind.i64.wrap ((UInt8.toNat c14 : Nat) : Int)))) 65521))) 65521), x11, (IntKind.i64.wrap (x12 + 1)), h13)) else none))
 else (
 some (x9, x10, h13)))
def F173 (N : Nat) : ByteArray × H → Option (Int × H)
 | (a0, h) =>
 (L173_0 N N (a0, 1, 0, ((a0).size : Int), 0, h)).bind fun (x15, x16, h17) =>
 some ((IntKind.i64.wrap (((BitVec.ofInt IntKind.i64.bits (IntKind.i64.wrap (x16 * 2 ^ (min (Int.toNat 16) IntKind.i64.bits)))) ||| (BitVec.ofInt IntKind.i64.bits x15)).toNat)), h17)
abbrev ks173 : List SK := [.one .str]
abbrev rs173 : List SK := [.one (.int .i64)]
def e173 (N : Nat) : Env := ⟨Tryz.prog, 27, inTab [], inTab [], natTab [], inTab [], calTab [], altTab [], loopTab [(3, ⟨⟨.normal, [0, 3, 4, 7, 8], [.one .str, .one (.int .i64), .one (.int .i64), .one (.int .i64), .one (.int .i64)], [], []⟩, [⟨(.exit 0), [3, 4], [.one (.int .i64), .one (.int .i64)], [], []⟩], L173_0 N⟩)], natTab [], inTab []⟩
theorem l173_0 (N : Nat) : ∀ A, (e173 N).lp (lid (loopAt Tryz.f173 0)) = some A → LoopOk (e173 N) N (loopAt Tryz.f173 0) A :=
  loopOk_of (A := ⟨⟨.normal, [0, 3, 4, 7, 8], [.one .str, .one (.int .i64), .one (.int .i64), .one (.int .i64), .one (.int .i64)], [], []⟩, [⟨(.exit 0), [3, 4], [.one (.int .i64), .one (.int .i64)], [], []⟩], L173_0 N⟩) (by kernel_rfl) (fun _ => rfl) (fun _ _ => by kernel_rfl)
theorem fine173 (N : Nat) : Fine (e173 N) N 173 Tryz.f173 ks173 rs173 (F173 N) :=
  ⟨Tryz.func173, by kernel_rfl, by kernel_rfl, by kernel_rfl, loops_of ⟨l173_0 N, trivial⟩, by kernel_rfl, by kernel_rfl, fun _ => by kernel_rfl⟩
theorem good173 (N : Nat) : Go.L.Good (e173 N) := good_of trivial
theorem gd173 : CalOk Tryz.prog 173 (.pure (mkP ks173 rs173 (F173 2000))) := mkP_good (fine173 2000) (good173 2000) (by kernel_rfl) (by kernel_rfl)

/-! ### 91: wire.Writer).Seal -/
def L91_0 (N : Nat) : Nat → V × Int × Int × H → Option (V × H)
 | 0, _ => none
 | n + 1, (x13, x14, x15, h16) =>
 (if (decide (x15 < 4)) = true then (
 (nck x13).bind fun _ =>
 ((rd h16 (padd x13 0) 0)).bind fun x17 =>
 (if (IntKind.i64.wrap (8 * x15)) < 0 then none else (
 (happ h16 x17 1 1 [(.int .u8 (IntKind.u8.wrap (Int.fdiv x14 (2 ^ (min (Int.toNat (IntKind.i64.wrap (8 * x15))) IntKind.i64.bits)))))]).bind fun (v18, h19) =>
 (nck x13).bind fun _ =>
 (ck1 v18).bind fun _ =>
 (wr h19 (padd x13 0) [v18]).bind fun h20 =>
 L91_0 N n (x13, x14, (IntKind.i64.wrap (x15 + 1)), h20))))
 else (
 some (x13, h16)))
def F91 (N : Nat) : V × H → Option (ByteArray × H)
 | (a0, h) =>
 (nck a0).bind fun _ =>
 ((rd h (padd a0 0) 0)).bind fun x1 =>
 (scells h x1 1).bind fun cs2 =>
 (strOfV cs2).bind fun t3 =>
 (F173 2000 (t3, [])).bind fun (x4, _) =>
 (L91_0 N N (a0, x4, 0, h)).bind fun (x21, h22) =>
 (nck x21).bind fun _ =>
 ((rd h22 (padd x21 0) 0)).bind fun x23 =>
 (scells h22 x23 1).bind fun cs24 =>
 (strOfV cs24).bind fun t25 =>
 some (t25, h22)
abbrev ks91 : List SK := [.one .ref]
abbrev rs91 : List SK := [.one .str]
def e91 (N : Nat) : Env := ⟨Tryz.prog, 34, inTab [24], inTab [], natTab [], inTab [], calTab [(173, .pure (mkP ks173 rs173 (F173 2000)))], altTab [], loopTab [(3, ⟨⟨.normal, [0, 3, 11], [.one .ref, .one (.int .i64), .one (.int .i64)], [], []⟩, [⟨(.exit 0), [0], [.one .ref], [], []⟩], L91_0 N⟩)], natTab [], inTab []⟩
theorem l91_0 (N : Nat) : ∀ A, (e91 N).lp (lid (loopAt Tryz.f91 0)) = some A → LoopOk (e91 N) N (loopAt Tryz.f91 0) A :=
  loopOk_of (A := ⟨⟨.normal, [0, 3, 11], [.one .ref, .one (.int .i64), .one (.int .i64)], [], []⟩, [⟨(.exit 0), [0], [.one .ref], [], []⟩], L91_0 N⟩) (by kernel_rfl) (fun _ => rfl) (fun _ _ => by kernel_rfl)
theorem fine91 (N : Nat) : Fine (e91 N) N 91 Tryz.f91 ks91 rs91 (F91 N) :=
  ⟨Tryz.func91, by kernel_rfl, by kernel_rfl, by kernel_rfl, loops_of ⟨l91_0 N, trivial⟩, by kernel_rfl, by kernel_rfl, fun _ => by kernel_rfl⟩
theorem good91 (N : Nat) : Go.L.Good (e91 N) := good_of ⟨gd173, trivial⟩
theorem gd91 (N : Nat) : CalOk Tryz.prog 91 (.full (mkFun ks91 rs91 (F91 N))) := mkFun_good (fine91 N) (good91 N)

/-! ### 158: stringslite.HasPrefix -/
def F158 (N : Nat) : ByteArray × ByteArray × H → Option (Bool × H)
 | (a0, a1, h) =>
 (if (decide (((a0).size : Int) ≥ ((a1).size : Int))) = true then (
 (if 0 ≤ 0 then (if 0 ≤ ((a1).size : Int) then (if ((a1).size : Int) ≤ ((a0).size : Int) then (
 some ((((ByteArray.extract a0 (Int.toNat 0) (Int.toNat ((a1).size : Int)))).toList == (a1).toList), h)) else none) else none) else none))
 else (
 some (false, h))).bind fun (b1, h2) =>
 some (b1, h2)
abbrev ks158 : List SK := [.one .str, .one .str]
abbrev rs158 : List SK := [.one .bool]
def e158 (N : Nat) : Env := ⟨Tryz.prog, 18, inTab [], inTab [], natTab [], inTab [], calTab [], altTab [], loopTab [], natTab [], inTab []⟩
theorem fine158 (N : Nat) : Fine (e158 N) N 158 Tryz.f158 ks158 rs158 (F158 N) :=
  ⟨Tryz.func158, by kernel_rfl, by kernel_rfl, by kernel_rfl, loops_of trivial, by kernel_rfl, by kernel_rfl, fun _ => by kernel_rfl⟩
theorem good158 (N : Nat) : Go.L.Good (e158 N) := good_of trivial
theorem gd158 : CalOk Tryz.prog 158 (.pure (mkP ks158 rs158 (F158 100))) := mkP_good (fine158 100) (good158 100) (by kernel_rfl) (by kernel_rfl)

/-! ### 71: strings.HasPrefix -/
def F71 (N : Nat) : ByteArray × ByteArray × H → Option (Bool × H)
 | (a0, a1, h) =>
 (F158 100 (a0, a1, [])).bind fun (x1, _) =>
 some (x1, h)
abbrev ks71 : List SK := [.one .str, .one .str]
abbrev rs71 : List SK := [.one .bool]
def e71 (N : Nat) : Env := ⟨Tryz.prog, 8, inTab [], inTab [], natTab [], inTab [], calTab [(158, .pure (mkP ks158 rs158 (F158 100)))], altTab [], loopTab [], natTab [], inTab []⟩
theorem fine71 (N : Nat) : Fine (e71 N) N 71 Tryz.f71 ks71 rs71 (F71 N) :=
  ⟨Tryz.func71, by kernel_rfl, by kernel_rfl, by kernel_rfl, loops_of trivial, by kernel_rfl, by kernel_rfl, fun _ => by kernel_rfl⟩
theorem good71 (N : Nat) : Go.L.Good (e71 N) := good_of ⟨gd158, trivial⟩
theorem gd71 : CalOk Tryz.prog 71 (.pure (mkP ks71 rs71 (F71 100))) := mkP_good (fine71 100) (good71 100) (by kernel_rfl) (by kernel_rfl)

/-! ### 280: wire.Reader).Many -/
def F280 (N : Nat) : V × H → Option (Int × H)
 | (a0, h) =>
 (nck a0).bind fun _ =>
 (L.asInt .i64 (rd h (padd a0 1) 0)).bind fun x1 =>
 (F168 N (a0, h)).bind fun (x2, h3) =>
 (nck a0).bind fun _ =>
 (L.asInt .i64 (rd h3 (padd a0 2) 0)).bind fun x4 =>
 (if (decide (x4 < 0)) = true then (
 (nck a0).bind fun _ =>
 (L.asStr (rd h3 (padd a0 0) 0)).bind fun x7 =>
 (nck a0).bind fun _ =>
 (L.asInt .i64 (rd h3 (padd a0 1) 0)).bind fun x8 =>
 some ((decide (x2 > (IntKind.i64.wrap (((x7).size : Int) - x8)))), h3))
 else (
 some (false, h3))).bind fun (b5, h6) =>
 (if b5 = true then (
 none)
 else (
 some (x2, h6)))
abbrev ks280 : List SK := [.one .ref]
abbrev rs280 : List SK := [.one (.int .i64)]
def e280 (N : Nat) : Env := ⟨Tryz.prog, 34, inTab [], inTab [], natTab [], inTab [], calTab [(168, .own (mkFun ks168 rs168 (F168 N)))], altTab [], loopTab [], natTab [], inTab [4, 5]⟩
theorem fine280 (N : Nat) : Fine (e280 N) N 280 Tryz.f280 ks280 rs280 (F280 N) :=
  ⟨Tryz.func280, by kernel_rfl, by kernel_rfl, by kernel_rfl, loops_of trivial, by kernel_rfl, by kernel_rfl, fun _ => by kernel_rfl⟩
theorem good280 (N : Nat) : Go.L.Good (e280 N) := good_of ⟨gdo168 N, trivial⟩
theorem gd280 (N : Nat) : CalOk Tryz.prog 280 (.full (mkFun ks280 rs280 (F280 N))) := mkFun_good (fine280 N) (good280 N)

/-! ### 279: image.reader).list$1 -/
def F279 (N : Nat) : V × V × H → Option (H)
 | (a0, a1, h) =>
 ((rd h a1 0)).bind fun x1 =>
 (nck x1).bind fun _ =>
 ((rd h a0 0)).bind fun x2 =>
 (F168 N ((padd x1 0), h)).bind fun (x3, h4) =>
 (happ h4 x2 1 1 [(.int .i64 x3)]).bind fun (v5, h6) =>
 (ck1 v5).bind fun _ =>
 (wr h6 a0 [v5]).bind fun h7 =>
 (sepS (.p a0) (.p (padd x1 0))).bind fun _ =>
 some h7
abbrev ks279 : List SK := [.one .ref, .one .ref]
abbrev rs279 : List SK := []
def e279 (N : Nat) : Env := ⟨Tryz.prog, 9, inTab [7], inTab [], natTab [], inTab [], calTab [(168, .own (mkFun ks168 rs168 (F168 N)))], altTab [], loopTab [], natTab [], inTab []⟩
theorem fine279 (N : Nat) : Fine (e279 N) N 279 Tryz.f279 ks279 rs279 (F279 N) :=
  ⟨Tryz.func279, by kernel_rfl, by kernel_rfl, by kernel_rfl, loops_of trivial, by kernel_rfl, by kernel_rfl, fun _ => by kernel_rfl⟩
theorem good279 (N : Nat) : Go.L.Good (e279 N) := good_of ⟨gdo168 N, trivial⟩
theorem gd279 (N : Nat) : CalOk Tryz.prog 279 (.full (mkFun ks279 rs279 (F279 N))) := mkFun_good (fine279 N) (good279 N)

/-! ### 2000160: image.reader).each -/
abbrev rs2000160_22 : List SK := []
def D2000160_22 (N : Nat) : List (Nat × (List V → H → Option (Tup rs2000160_22 H))) := [(279, (mkFun ks279 rs279 (F279 N)).F)]
theorem dg2000160_22 (N : Nat) : CalOk Tryz.prog 16777238 (.dyn (dynF rs2000160_22 (D2000160_22 N))) := dyn_good ⟨mkFun_good (fine279 N) (good279 N), trivial⟩
def L2000160_0 (N : Nat) : Nat → V × V × Int × H → Option (H)
 | 0, _ => none
 | n + 1, (x11, x12, x13, h14) =>
 (if (decide (x13 > 0)) = true then (
 (nck x11).bind fun _ =>
 (L.asInt .i64 (rd h14 (padd (padd x11 0) 2) 0)).bind fun x17 =>
 some ((decide (x17 < 0)), h14))
 else (
 some (false, h14))).bind fun (b15, h16) =>
 (if b15 = true then (
 Option.bind (α := H) (dynC rs2000160_22 (D2000160_22 N) x12 [] h16) fun h18 =>
 L2000160_0 N n (x11, x12, (IntKind.i64.wrap (x13 - 1)), h18))
 else (
 some h16))
def F2000160 (N : Nat) : V × V × H → Option (H)
 | (a0, a1, h) =>
 (nck a0).bind fun _ =>
 (F280 N ((padd a0 0), h)).bind fun (x1, h2) =>
 (L2000160_0 N N (a0, a1, x1, h2)).bind fun h19 =>
 some h19
abbrev ks2000160 : List SK := [.one .ref, .one .ref]
abbrev rs2000160 : List SK := []
def e2000160 (N : Nat) : Env := ⟨Tryz.prog, 23, inTab [], inTab [], natTab [], inTab [], calTab [(280, .full (mkFun ks280 rs280 (F280 N))), (16777238, .dyn (dynF rs2000160_22 (D2000160_22 N)))], altTab [], loopTab [(1, ⟨⟨.normal, [0, 1, 4], [.one .ref, .one .ref, .one (.int .i64)], [], []⟩, [⟨(.exit 0), [], [], [], []⟩], L2000160_0 N⟩)], natTab [], inTab []⟩
theorem l2000160_0 (N : Nat) : ∀ A, (e2000160 N).lp (lid (loopAt Tryz.f160 0)) = some A → LoopOk (e2000160 N) N (loopAt Tryz.f160 0) A :=
  loopOk_of (A := ⟨⟨.normal, [0, 1, 4], [.one .ref, .one .ref, .one (.int .i64)], [], []⟩, [⟨(.exit 0), [], [], [], []⟩], L2000160_0 N⟩) (by kernel_rfl) (fun _ => rfl) (fun _ _ => by kernel_rfl)
theorem fine2000160 (N : Nat) : Fine (e2000160 N) N 160 Tryz.f160 ks2000160 rs2000160 (F2000160 N) :=
  ⟨Tryz.func160, by kernel_rfl, by kernel_rfl, by kernel_rfl, loops_of ⟨l2000160_0 N, trivial⟩, by kernel_rfl, by kernel_rfl, fun _ => by kernel_rfl⟩
theorem good2000160 (N : Nat) : Go.L.Good (e2000160 N) := good_of ⟨gd280 N, ⟨dg2000160_22 N, trivial⟩⟩
theorem gd2000160 (N : Nat) : CalOk Tryz.prog 160 (.full (mkFun ks2000160 rs2000160 (F2000160 N))) := mkFun_good (fine2000160 N) (good2000160 N)

/-! ### 159: image.reader).list -/
def F159 (N : Nat) : V × H → Option (V × H)
 | (a0, h) =>
 (ck1 a0).bind fun _ =>
 (some (h ++ [O.cells 0 [a0]]) : Option H).bind fun h1 =>
 (some (h1 ++ [O.cells 0 [.nils]]) : Option H).bind fun h2 =>
 ((rd h2 (.ptr (h).length 0 0) 0)).bind fun x3 =>
 (F2000160 N (x3, (.fn 279 [(.ptr (h1).length 0 0), (.ptr (h).length 0 0)]), h2)).bind fun h4 =>
 ((rd h4 (.ptr (h1).length 0 0) 0)).bind fun x5 =>
 some (x5, h4)
abbrev ks159 : List SK := [.one .ref]
abbrev rs159 : List SK := [.one .ref]
def e159 (N : Nat) : Env := ⟨Tryz.prog, 8, inTab [], inTab [], natTab [], inTab [], calTab [(160, .full (mkFun ks2000160 rs2000160 (F2000160 N)))], altTab [], loopTab [], natTab [], inTab []⟩
theorem fine159 (N : Nat) : Fine (e159 N) N 159 Tryz.f159 ks159 rs159 (F159 N) :=
  ⟨Tryz.func159, by kernel_rfl, by kernel_rfl, by kernel_rfl, loops_of trivial, by kernel_rfl, by kernel_rfl, fun _ => by kernel_rfl⟩
theorem good159 (N : Nat) : Go.L.Good (e159 N) := good_of ⟨gd2000160 N, trivial⟩
theorem gd159 (N : Nat) : CalOk Tryz.prog 159 (.full (mkFun ks159 rs159 (F159 N))) := mkFun_good (fine159 N) (good159 N)

/-! ### 3000160: image.reader).each -/
def L3000160_0 (N : Nat) : Nat → V × Int × H → Option (H)
 | 0, _ => none
 | n + 1, (x9, x10, h11) =>
 (if (decide (x10 > 0)) = true then (
 (nck x9).bind fun _ =>
 (L.asInt .i64 (rd h11 (padd (padd x9 0) 2) 0)).bind fun x14 =>
 some ((decide (x14 < 0)), h11))
 else (
 some (false, h11))).bind fun (b12, h13) =>
 (if b12 = true then (
 none)
 else (
 some h13))
def F3000160 (N : Nat) : V × V × H → Option (H)
 | (a0, a1, h) =>
 (nck a0).bind fun _ =>
 (F280 N ((padd a0 0), h)).bind fun (x1, h2) =>
 (L3000160_0 N N (a0, x1, h2)).bind fun h15 =>
 some h15
abbrev ks3000160 : List SK := [.one .ref, .one .ref]
abbrev rs3000160 : List SK := []
def e3000160 (N : Nat) : Env := ⟨Tryz.prog, 23, inTab [], inTab [], natTab [], inTab [], calTab [(280, .full (mkFun ks280 rs280 (F280 N)))], altTab [], loopTab [(1, ⟨⟨.normal, [0, 4], [.one .ref, .one (.int .i64)], [], []⟩, [⟨(.exit 0), [], [], [], []⟩], L3000160_0 N⟩)], natTab [], inTab [3]⟩
theorem l3000160_0 (N : Nat) : ∀ A, (e3000160 N).lp (lid (loopAt Tryz.f160 0)) = some A → LoopOk (e3000160 N) N (loopAt Tryz.f160 0) A :=
  loopOk_of (A := ⟨⟨.normal, [0, 4], [.one .ref, .one (.int .i64)], [], []⟩, [⟨(.exit 0), [], [], [], []⟩], L3000160_0 N⟩) (by kernel_rfl) (fun _ => rfl) (fun _ _ => by kernel_rfl)
theorem fine3000160 (N : Nat) : Fine (e3000160 N) N 160 Tryz.f160 ks3000160 rs3000160 (F3000160 N) :=
  ⟨Tryz.func160, by kernel_rfl, by kernel_rfl, by kernel_rfl, loops_of ⟨l3000160_0 N, trivial⟩, by kernel_rfl, by kernel_rfl, fun _ => by kernel_rfl⟩
theorem good3000160 (N : Nat) : Go.L.Good (e3000160 N) := good_of ⟨gd280 N, trivial⟩
theorem gd3000160 (N : Nat) : CalOk Tryz.prog 160 (.full (mkFun ks3000160 rs3000160 (F3000160 N))) := mkFun_good (fine3000160 N) (good3000160 N)

/-! ### 166: image.reader).core -/
def L166_0 (N : Nat) : Nat → V × V × V × Int × H → Option (V × V × V × H)
 | 0, _ => none
 | n + 1, (x12, x13, x14, x15, h16) =>
 (if (decide (x15 < 3)) = true then (
 (some (h16 ++ [O.cells 0 [(.int .i64 0)]]) : Option H).bind fun h17 =>
 (wr h17 (.ptr (h16).length 0 0) [(.int .i64 x15)]).bind fun h18 =>
 ((rd h18 x13 0)).bind fun x19 =>
 (F3000160 N (x19, (.fn 287 [x13, x14, (.ptr (h16).length 0 0)]), h18)).bind fun h20 =>
 L166_0 N n (x12, x13, x14, (IntKind.i64.wrap (x15 + 1)), h20))
 else (
 some (x12, x13, x14, h16)))
def L166_1 (N : Nat) : Nat → V × V × V × Int × Int × H → Option (V × V × H)
 | 0, _ => none
 | n + 1, (x48, x49, x50, x51, x52, h53) =>
 (if (decide (x52 < x51)) = true then (
 (sidx x50 x52 1).bind fun q54 =>
 ((rd h53 q54 0)).bind fun x55 =>
 ((rd h53 x49 0)).bind fun x56 =>
 (nck x56).bind fun _ =>
 (nck x55).bind fun _ =>
 ((rd h53 x55 0)).bind fun x57 =>
 (F168 N ((padd x56 0), h53)).bind fun (x58, h59) =>
 (happ h59 x57 1 1 [(.int .i64 x58)]).bind fun (v60, h61) =>
 (nck x55).bind fun _ =>
 (ck1 v60).bind fun _ =>
 (wr h61 x55 [v60]).bind fun h62 =>
 (sepS (.p x55) (.p (padd x56 0))).bind fun _ =>
 L166_1 N n (x48, x49, x50, x51, (IntKind.i64.wrap (x52 + 1)), h62))
 else (
 some (x48, x49, h53)))
def F166 (N : Nat) : V × V × H → Option (H)
 | (a0, a1, h) =>
 (ck1 a0).bind fun _ =>
 (some (h ++ [O.cells 0 [a0]]) : Option H).bind fun h1 =>
 (some (h1 ++ [O.cells 0 [.nils, .nils, .nils]]) : Option H).bind fun h2 =>
 (L166_0 N N (a1, (.ptr (h).length 0 0), (.ptr (h1).length 0 0), 0, h2)).bind fun (x21, x22, x23, h24) =>
 (nck x21).bind fun _ =>
 ((rd h24 (padd x21 4) 0)).bind fun x25 =>
 (rdN h24 x23 3).bind fun cs26 =>
 (if (cs26).length = 3 then (
 (if 0 + (cs26).length ≤ 3 then (
 (scells h24 (.rs 3 (chunks 3 1 (splice [.nils, .nils, .nils] 0 cs26))) 3).bind fun cs29 =>
 (happ h24 x25 3 (snlen (.rs 3 (chunks 3 1 (splice [.nils, .nils, .nils] 0 cs26)))) cs29).bind fun (v27, h28) =>
 (nck x21).bind fun _ =>
 (ck1 v27).bind fun _ =>
 (wr h28 (padd x21 4) [v27]).bind fun h30 =>
 (nck x21).bind fun _ =>
 (nck x21).bind fun _ =>
 (nck x21).bind fun _ =>
 (ck1 (padd x21 5)).bind fun _ =>
 (ck1 (padd x21 6)).bind fun _ =>
 (ck1 (padd x21 7)).bind fun _ =>
 (some (h30 ++ [O.cells 0 [(padd x21 5), (padd x21 6), (padd x21 7)]]) : Option H).bind fun h31 =>
 (slen (.sl (h30).length 0 0 3 1 (some 3))).bind fun n32 =>
 (L166_1 N N (x21, x22, (.sl (h30).length 0 0 3 1 (some 3)), n32, 0, h31)).bind fun (x63, x64, h65) =>
 (some (h65 ++ [O.cells 0 [.nils]]) : Option H).bind fun h66 =>
 ((rd h66 x64 0)).bind fun x67 =>
 (F3000160 N (x67, (.fn 288 [x64, (.ptr (h65).length 0 0)]), h66)).bind fun h68 =>
 (nck x63).bind fun _ =>
 ((rd h68 (padd x63 8) 0)).bind fun x69 =>
 ((rd h68 (.ptr (h65).length 0 0) 0)).bind fun x70 =>
 (ck1 x70).bind fun _ =>
 (happ h68 x69 1 1 (List.flatMap V.cells [x70])).bind fun (v71, h72) =>
 (nck x63).bind fun _ =>
 (ck1 v71).bind fun _ =>
 (wr h72 (padd x63 8) [v71]).bind fun h73 =>
 some h73) else none)) else none)
abbrev ks166 : List SK := [.one .ref, .one .ref]
abbrev rs166 : List SK := []
def e166 (N : Nat) : Env := ⟨Tryz.prog, 66, inTab [22, 49, 62], inTab [], natTab [], inTab [], calTab [(160, .full (mkFun ks3000160 rs3000160 (F3000160 N))), (168, .own (mkFun ks168 rs168 (F168 N)))], altTab [], loopTab [(3, ⟨⟨.normal, [1, 2, 4, 9], [.one .ref, .one .ref, .one .ref, .one (.int .i64)], [], []⟩, [⟨(.exit 0), [1, 2, 4], [.one .ref, .one .ref, .one .ref], [], []⟩], L166_0 N⟩), (9, ⟨⟨.normal, [1, 2, 35, 36, 37], [.one .ref, .one .ref, .one .ref, .one (.int .i64), .one (.int .i64)], [], []⟩, [⟨(.exit 2), [1, 2], [.one .ref, .one .ref], [], []⟩], L166_1 N⟩)], natTab [], inTab []⟩
theorem l166_0 (N : Nat) : ∀ A, (e166 N).lp (lid (loopAt Tryz.f166 0)) = some A → LoopOk (e166 N) N (loopAt Tryz.f166 0) A :=
  loopOk_of (A := ⟨⟨.normal, [1, 2, 4, 9], [.one .ref, .one .ref, .one .ref, .one (.int .i64)], [], []⟩, [⟨(.exit 0), [1, 2, 4], [.one .ref, .one .ref, .one .ref], [], []⟩], L166_0 N⟩) (by kernel_rfl) (fun _ => rfl) (fun _ _ => by kernel_rfl)
theorem l166_1 (N : Nat) : ∀ A, (e166 N).lp (lid (loopAt Tryz.f166 1)) = some A → LoopOk (e166 N) N (loopAt Tryz.f166 1) A :=
  loopOk_of (A := ⟨⟨.normal, [1, 2, 35, 36, 37], [.one .ref, .one .ref, .one .ref, .one (.int .i64), .one (.int .i64)], [], []⟩, [⟨(.exit 2), [1, 2], [.one .ref, .one .ref], [], []⟩], L166_1 N⟩) (by kernel_rfl) (fun _ => rfl) (fun _ _ => by kernel_rfl)
theorem fine166 (N : Nat) : Fine (e166 N) N 166 Tryz.f166 ks166 rs166 (F166 N) :=
  ⟨Tryz.func166, by kernel_rfl, by kernel_rfl, by kernel_rfl, loops_of ⟨l166_0 N, ⟨l166_1 N, trivial⟩⟩, by kernel_rfl, by kernel_rfl, fun _ => by kernel_rfl⟩
theorem good166 (N : Nat) : Go.L.Good (e166 N) := good_of ⟨gd3000160 N, ⟨gdo168 N, trivial⟩⟩
theorem gd166 (N : Nat) : CalOk Tryz.prog 166 (.full (mkFun ks166 rs166 (F166 N))) := mkFun_good (fine166 N) (good166 N)

/-! ### 165: image.reader).snap$3 -/
def F165 (N : Nat) : V × V × H → Option (H)
 | (a0, a1, h) =>
 ((rd h a0 0)).bind fun x1 =>
 (F166 N (x1, a1, h)).bind fun h2 =>
 some h2
abbrev ks165 : List SK := [.one .ref, .one .ref]
abbrev rs165 : List SK := []
def e165 (N : Nat) : Env := ⟨Tryz.prog, 4, inTab [], inTab [], natTab [], inTab [], calTab [(166, .full (mkFun ks166 rs166 (F166 N)))], altTab [], loopTab [], natTab [], inTab []⟩
theorem fine165 (N : Nat) : Fine (e165 N) N 165 Tryz.f165 ks165 rs165 (F165 N) :=
  ⟨Tryz.func165, by kernel_rfl, by kernel_rfl, by kernel_rfl, loops_of trivial, by kernel_rfl, by kernel_rfl, fun _ => by kernel_rfl⟩
theorem good165 (N : Nat) : Go.L.Good (e165 N) := good_of ⟨gd166 N, trivial⟩
theorem gd165 (N : Nat) : CalOk Tryz.prog 165 (.full (mkFun ks165 rs165 (F165 N))) := mkFun_good (fine165 N) (good165 N)

/-! ### 1000160: image.reader).each -/
abbrev rs1000160_22 : List SK := []
def D1000160_22 (N : Nat) : List (Nat × (List V → H → Option (Tup rs1000160_22 H))) := [(165, (mkFun ks165 rs165 (F165 N)).F)]
theorem dg1000160_22 (N : Nat) : CalOk Tryz.prog 16777238 (.dyn (dynF rs1000160_22 (D1000160_22 N))) := dyn_good ⟨mkFun_good (fine165 N) (good165 N), trivial⟩
def L1000160_0 (N : Nat) : Nat → V × V × Int × H → Option (H)
 | 0, _ => none
 | n + 1, (x11, x12, x13, h14) =>
 (if (decide (x13 > 0)) = true then (
 (nck x11).bind fun _ =>
 (L.asInt .i64 (rd h14 (padd (padd x11 0) 2) 0)).bind fun x17 =>
 some ((decide (x17 < 0)), h14))
 else (
 some (false, h14))).bind fun (b15, h16) =>
 (if b15 = true then (
 Option.bind (α := H) (dynC rs1000160_22 (D1000160_22 N) x12 [] h16) fun h18 =>
 L1000160_0 N n (x11, x12, (IntKind.i64.wrap (x13 - 1)), h18))
 else (
 some h16))
def F1000160 (N : Nat) : V × V × H → Option (H)
 | (a0, a1, h) =>
 (nck a0).bind fun _ =>
 (F280 N ((padd a0 0), h)).bind fun (x1, h2) =>
 (L1000160_0 N N (a0, a1, x1, h2)).bind fun h19 =>
 some h19
abbrev ks1000160 : List SK := [.one .ref, .one .ref]
abbrev rs1000160 : List SK := []
def e1000160 (N : Nat) : Env := ⟨Tryz.prog, 23, inTab [], inTab [], natTab [], inTab [], calTab [(280, .full (mkFun ks280 rs280 (F280 N))), (16777238, .dyn (dynF rs1000160_22 (D1000160_22 N)))], altTab [], loopTab [(1, ⟨⟨.normal, [0, 1, 4], [.one .ref, .one .ref, .one (.int .i64)], [], []⟩, [⟨(.exit 0), [], [], [], []⟩], L1000160_0 N⟩)], natTab [], inTab []⟩
theorem l1000160_0 (N : Nat) : ∀ A, (e1000160 N).lp (lid (loopAt Tryz.f160 0)) = some A → LoopOk (e1000160 N) N (loopAt Tryz.f160 0) A :=
  loopOk_of (A := ⟨⟨.normal, [0, 1, 4], [.one .ref, .one .ref, .one (.int .i64)], [], []⟩, [⟨(.exit 0), [], [], [], []⟩], L1000160_0 N⟩) (by kernel_rfl) (fun _ => rfl) (fun _ _ => by kernel_rfl)
theorem fine1000160 (N : Nat) : Fine (e1000160 N) N 160 Tryz.f160 ks1000160 rs1000160 (F1000160 N) :=
  ⟨Tryz.func160, by kernel_rfl, by kernel_rfl, by kernel_rfl, loops_of ⟨l1000160_0 N, trivial⟩, by kernel_rfl, by kernel_rfl, fun _ => by kernel_rfl⟩
theorem good1000160 (N : Nat) : Go.L.Good (e1000160 N) := good_of ⟨gd280 N, ⟨dg1000160_22 N, trivial⟩⟩
theorem gd1000160 (N : Nat) : CalOk Tryz.prog 160 (.full (mkFun ks1000160 rs1000160 (F1000160 N))) := mkFun_good (fine1000160 N) (good1000160 N)

/-! ### 72: image.reader).snap -/
def F72 (N : Nat) : V × H → Option (V × V × V × V × V × V × V × V × V × V × Int × Int × V × H)
 | (a0, h) =>
 (ck1 a0).bind fun _ =>
 (some (h ++ [O.cells 0 [a0]]) : Option H).bind fun h1 =>
 (some (h1 ++ [O.cells 0 [.nils, .nils, .nils, .nils, .nils, .nils, .nils, .nils, .nils, .nils, (.int .i64 0), (.int .i64 0), .nils]]) : Option H).bind fun h2 =>
 ((rd h2 (.ptr (h).length 0 0) 0)).bind fun x3 =>
 (F159 N (x3, h2)).bind fun (x4, h5) =>
 (ck1 x4).bind fun _ =>
 (wr h5 (.ptr (h1).length 0 0) [x4]).bind fun h6 =>
 ((rd h6 (.ptr (h).length 0 0) 0)).bind fun x7 =>
 (F1000160 N (x7, (.fn 161 [(.ptr (h1).length 0 0), (.ptr (h).length 0 0)]), h6)).bind fun h8 =>
 ((rd h8 (.ptr (h).length 0 0) 0)).bind fun x9 =>
 (F1000160 N (x9, (.fn 163 [(.ptr (h1).length 0 0), (.ptr (h).length 0 0)]), h8)).bind fun h10 =>
 ((rd h10 (.ptr (h).length 0 0) 0)).bind fun x11 =>
 (F159 N (x11, h10)).bind fun (x12, h13) =>
 (ck1 x12).bind fun _ =>
 (wr h13 (.ptr (h1).length 0 3) [x12]).bind fun h14 =>
 ((rd h14 (.ptr (h).length 0 0) 0)).bind fun x15 =>
 (F1000160 N (x15, (.fn 165 [(.ptr (h).length 0 0), (.ptr (h1).length 0 0)]), h14)).bind fun h16 =>
 ((rd h16 (.ptr (h).length 0 0) 0)).bind fun x17 =>
 (F1000160 N (x17, (.fn 167 [(.ptr (h).length 0 0), (.ptr (h1).length 0 0)]), h16)).bind fun h18 =>
 ((rd h18 (.ptr (h).length 0 0) 0)).bind fun x19 =>
 (nck x19).bind fun _ =>
 (F168 N ((padd x19 0), h18)).bind fun (x20, h21) =>
 (wr h21 (.ptr (h1).length 0 10) [(.int .i64 x20)]).bind fun h22 =>
 ((rd h22 (.ptr (h).length 0 0) 0)).bind fun x23 =>
 (nck x23).bind fun _ =>
 (F168 N ((padd x23 0), h22)).bind fun (x24, h25) =>
 (wr h25 (.ptr (h1).length 0 11) [(.int .i64 x24)]).bind fun h26 =>
 ((rd h26 (.ptr (h).length 0 0) 0)).bind fun x27 =>
 (F1000160 N (x27, (.fn 170 [(.ptr (h).length 0 0), (.ptr (h1).length 0 0)]), h26)).bind fun h28 =>
 ((rd h28 (.ptr (h1).length 0 0) 0)).bind fun x29 =>
 ((rd h28 (.ptr (h1).length 0 0) 1)).bind fun x30 =>
 ((rd h28 (.ptr (h1).length 0 0) 2)).bind fun x31 =>
 ((rd h28 (.ptr (h1).length 0 0) 3)).bind fun x32 =>
 ((rd h28 (.ptr (h1).length 0 0) 4)).bind fun x33 =>
 ((rd h28 (.ptr (h1).length 0 0) 5)).bind fun x34 =>
 ((rd h28 (.ptr (h1).length 0 0) 6)).bind fun x35 =>
 ((rd h28 (.ptr (h1).length 0 0) 7)).bind fun x36 =>
 ((rd h28 (.ptr (h1).length 0 0) 8)).bind fun x37 =>
 ((rd h28 (.ptr (h1).length 0 0) 9)).bind fun x38 =>
 (L.asInt .i64 (rd h28 (.ptr (h1).length 0 0) 10)).bind fun x39 =>
 (L.asInt .i64 (rd h28 (.ptr (h1).length 0 0) 11)).bind fun x40 =>
 ((rd h28 (.ptr (h1).length 0 0) 12)).bind fun x41 =>
 some (x29, x30, x31, x32, x33, x34, x35, x36, x37, x38, x39, x40, x41, h28)
abbrev ks72 : List SK := [.one .ref]
abbrev rs72 : List SK := [.agg [.ref, .ref, .ref, .ref, .ref, .ref, .ref, .ref, .ref, .ref, (.int .i64), (.int .i64), .ref]]
def e72 (N : Nat) : Env := ⟨Tryz.prog, 36, inTab [2], inTab [], natTab [(2, 2)], inTab [], calTab [(159, .full (mkFun ks159 rs159 (F159 N))), (160, .full (mkFun ks1000160 rs1000160 (F1000160 N))), (168, .own (mkFun ks168 rs168 (F168 N)))], altTab [], loopTab [], natTab [], inTab []⟩
theorem fine72 (N : Nat) : Fine (e72 N) N 72 Tryz.f72 ks72 rs72 (F72 N) :=
  ⟨Tryz.func72, by kernel_rfl, by kernel_rfl, by kernel_rfl, loops_of trivial, by kernel_rfl, by kernel_rfl, fun _ => by kernel_rfl⟩
theorem good72 (N : Nat) : Go.L.Good (e72 N) := good_of ⟨gd159 N, ⟨gd1000160 N, ⟨gdo168 N, trivial⟩⟩⟩
theorem gd72 (N : Nat) : CalOk Tryz.prog 72 (.full (mkFun ks72 rs72 (F72 N))) := mkFun_good (fine72 N) (good72 N)
theorem gl72 (N : Nat) : CalOk Tryz.prog 72 (.full (mkFun ks72 rs72 (locF false ks72 rs72 (F72 N)))) := loc_full (gd72 N)

/-! ### 73: wire.Reader).Sealed -/
def L73_0 (N : Nat) : Nat → V × Int × Int × H → Option (V × Int × H)
 | 0, _ => none
 | n + 1, (x14, x15, x16, h17) =>
 (if (decide (x16 < 4)) = true then (
 (nck x14).bind fun _ =>
 (L.asStr (rd h17 (padd x14 0) 0)).bind fun x18 =>
 (nck x14).bind fun _ =>
 (L.asInt .i64 (rd h17 (padd x14 1) 0)).bind fun x19 =>
 (if 0 ≤ (IntKind.i64.wrap (x19 + x16)) then (x18[Int.toNat (IntKind.i64.wrap (x19 + x16))]?.bind fun c20 =>
 (if (IntKind.i64.wrap (8 * x16)) < 0 then none else (
 L73_0 N n (x14, (IntKind.i64.wrap (((BitVec.ofInt IntKind.i64.bits x15) ||| (BitVec.ofInt IntKind.i64.bits (IntKind.i64.wrap ((IntKind.i64.wrap ((UInt8.toNat c20 : Nat) : Int)) * 2 ^ (min (Int.toNat (IntKind.i64.wrap (8 * x16))) IntKind.i64.bits))))).toNat)), (IntKind.i64.wrap (x16 + 1)), h17)))) else none))
 else (
 some (x14, x15, h17)))
def F73 (N : Nat) : V × H → Option (Int × H)
 | (a0, h) =>
 (nck a0).bind fun _ =>
 (L.asInt .i64 (rd h (padd a0 2) 0)).bind fun x1 =>
 (if (decide (x1 < 0)) = true then (
 (nck a0).bind fun _ =>
 (L.asStr (rd h (padd a0 0) 0)).bind fun x4 =>
 (nck a0).bind fun _ =>
 (L.asInt .i64 (rd h (padd a0 1) 0)).bind fun x5 =>
 some (((IntKind.i64.wrap (((x4).size : Int) - x5)) != 4), h))
 else (
 some (false, h))).bind fun (b2, h3) =>
 (if b2 = true then (
 none)
 else (
 (nck a0).bind fun _ =>
 (L.asInt .i64 (rd h3 (padd a0 2) 0)).bind fun x6 =>
 (if (decide (x6 ≥ 0)) = true then (
 some (80, h3))
 else (
 (L73_0 N N (a0, 0, 0, h3)).bind fun (x21, x22, h23) =>
 (nck x21).bind fun _ =>
 (L.asStr (rd h23 (padd x21 0) 0)).bind fun x24 =>
 (nck x21).bind fun _ =>
 (L.asInt .i64 (rd h23 (padd x21 1) 0)).bind fun x25 =>
 (if 0 ≤ 0 then (if 0 ≤ x25 then (if x25 ≤ ((x24).size : Int) then (
 (F173 2000 ((ByteArray.extract x24 (Int.toNat 0) (Int.toNat x25)), [])).bind fun (x26, _) =>
 (if (x22 != x26) = true then (
 none)
 else (
 some (0, h23)))) else none) else none) else none)))))
abbrev ks73 : List SK := [.one .ref]
abbrev rs73 : List SK := [.one (.int .i64)]
def e73 (N : Nat) : Env := ⟨Tryz.prog, 67, inTab [], inTab [], natTab [], inTab [], calTab [(173, .pure (mkP ks173 rs173 (F173 2000)))], altTab [], loopTab [(7, ⟨⟨.normal, [0, 3, 34], [.one .ref, .one (.int .i64), .one (.int .i64)], [], []⟩, [⟨(.exit 0), [0, 3], [.one .ref, .one (.int .i64)], [], []⟩], L73_0 N⟩)], natTab [], inTab [2, 12]⟩
theorem l73_0 (N : Nat) : ∀ A, (e73 N).lp (lid (loopAt Tryz.f73 0)) = some A → LoopOk (e73 N) N (loopAt Tryz.f73 0) A :=
  loopOk_of (A := ⟨⟨.normal, [0, 3, 34], [.one .ref, .one (.int .i64), .one (.int .i64)], [], []⟩, [⟨(.exit 0), [0, 3], [.one .ref, .one (.int .i64)], [], []⟩], L73_0 N⟩) (by kernel_rfl) (fun _ => rfl) (fun _ _ => by kernel_rfl)
theorem fine73 (N : Nat) : Fine (e73 N) N 73 Tryz.f73 ks73 rs73 (F73 N) :=
  ⟨Tryz.func73, by kernel_rfl, by kernel_rfl, by kernel_rfl, loops_of ⟨l73_0 N, trivial⟩, by kernel_rfl, by kernel_rfl, fun _ => by kernel_rfl⟩
theorem good73 (N : Nat) : Go.L.Good (e73 N) := good_of ⟨gd173, trivial⟩
theorem gd73 (N : Nat) : CalOk Tryz.prog 73 (.ro (mkFun ks73 rs73 (F73 N))) := mkFun_ro (fine73 N) (good73 N) (by kernel_rfl)


end
end Go.Proofs.YtgipaccfnlklcaaGreat
