/- The functions that the law reaches, as plain ones (printed by gen.py). -/
import Derived.Test.YtkhnngghmlpbeaaGreatg2
set_option linter.unusedVariables false
set_option maxRecDepth 100000
namespace Go.Proofs.YtkhnngghmlpbeaaGreat
noncomputable section
open Go.L

/-! ### 116: code.named -/
def F116 (N : Nat) : ByteArray × H → Option (Bool × H)
 | (a0, h) =>
 (F52 N (5, 0, (0, 0), a0, 0, 0, .nils, h)).bind fun (x1, h2) =>
 some ((x1 == 0), h2)
abbrev ks116 : List SK := [.one .str]
abbrev rs116 : List SK := [.one .bool]
def e116 (N : Nat) : Env := ⟨Tryz.prog, 7, inTab [], inTab [], natTab [], inTab [], calTab [(52, .full (mkFun ks52 rs52 (F52 N)))], altTab [], loopTab [], natTab [], inTab []⟩
theorem fine116 (N : Nat) : Fine (e116 N) N 116 Tryz.f116 ks116 rs116 (F116 N) :=
  ⟨Tryz.func116, by kernel_rfl, by kernel_rfl, by kernel_rfl, loops_of trivial, by kernel_rfl, by kernel_rfl, fun _ => by kernel_rfl⟩
theorem good116 (N : Nat) : Go.L.Good (e116 N) := good_of ⟨gd52 N, trivial⟩
theorem gd116 (N : Nat) : CalOk Tryz.prog 116 (.full (mkFun ks116 rs116 (F116 N))) := mkFun_good (fine116 N) (good116 N)

/-! ### 117: code.headed -/
def L117_0 (N : Nat) : Nat → Int × Int × ByteArray × Int × Int × V × H → Option (ByteArray × Int × Int × V × H)
 | 0, _ => none
 | n + 1, (x16, x17, x18, x19, x20, x21, h22) =>
 (if (decide (x17 < x16)) = true then (
 none)
 else (
 some (x18, x19, x20, x21, h22)))
def F117 (N : Nat) : ByteArray × V × Int × H → Option (Bool × H)
 | (a0_0, a0_1, a1, h) =>
 (sidx a0_1 a1 4).bind fun q1 =>
 (L.asStr (rd h q1 0)).bind fun x2 =>
 (L.asInt .i64 (rd h q1 1)).bind fun x3 =>
 (L.asInt .i64 (rd h q1 2)).bind fun x4 =>
 ((rd h q1 3)).bind fun x5 =>
 (slen a0_1).bind fun n6 =>
 (ssl 4 a0_1 0 a1).bind fun v7 =>
 (slen v7).bind fun n8 =>
 (L117_0 N N (n8, 0, x2, x3, x4, x5, h)).bind fun (x23, x24, x25, x26, h27) =>
 (F116 N (x23, h27)).bind fun (x28, h29) =>
 (if x28 = true then (
 some ((decide (x24 ≥ 0)), h29))
 else (
 some (false, h29))).bind fun (b30, h31) =>
 (if b30 = true then (
 some ((decide (x24 ≤ x25)), h31))
 else (
 some (false, h31))).bind fun (b32, h33) =>
 (if b32 = true then (
 some ((decide (x25 ≤ 32)), h33))
 else (
 some (false, h33))).bind fun (b34, h35) =>
 (if b34 = true then (
 (slen x26).bind fun n38 =>
 some ((decide (n38 ≥ 1)), h35))
 else (
 some (false, h35))).bind fun (b36, h37) =>
 (if b36 = true then (
 (slen x26).bind fun n41 =>
 some ((decide (n41 ≤ 1024)), h37))
 else (
 some (false, h37))).bind fun (b39, h40) =>
 some (b39, h40)
abbrev ks117 : List SK := [.agg [.str, .ref], .one (.int .i64)]
abbrev rs117 : List SK := [.one .bool]
def e117 (N : Nat) : Env := ⟨Tryz.prog, 60, inTab [2, 5, 7], inTab [], natTab [(2, 2), (5, 5), (7, 7), (8, 2), (13, 2), (22, 7), (24, 5), (28, 5), (32, 5), (37, 5), (39, 5), (44, 5), (49, 5), (55, 5)], inTab [], calTab [(116, .full (mkFun ks116 rs116 (F116 N)))], altTab [], loopTab [(3, ⟨⟨.normal, [5, 17, 18], [.lp 5 0, .one (.int .i64), .one (.int .i64)], [5], [.cells [.str, (.int .i64), (.int .i64), .ref]]⟩, [⟨(.exit 0), [5], [.lp 5 0], [5], [.cells [.str, (.int .i64), (.int .i64), .ref]]⟩], L117_0 N⟩)], natTab [], inTab [4, 5, 6, 7]⟩
theorem l117_0 (N : Nat) : ∀ A, (e117 N).lp (lid (loopAt Tryz.f117 0)) = some A → LoopOk (e117 N) N (loopAt Tryz.f117 0) A :=
  loopOk_of (A := ⟨⟨.normal, [5, 17, 18], [.lp 5 0, .one (.int .i64), .one (.int .i64)], [5], [.cells [.str, (.int .i64), (.int .i64), .ref]]⟩, [⟨(.exit 0), [5], [.lp 5 0], [5], [.cells [.str, (.int .i64), (.int .i64), .ref]]⟩], L117_0 N⟩) (by kernel_rfl) (fun _ => rfl) (fun _ _ => by kernel_rfl)
theorem fine117 (N : Nat) : Fine (e117 N) N 117 Tryz.f117 ks117 rs117 (F117 N) :=
  ⟨Tryz.func117, by kernel_rfl, by kernel_rfl, by kernel_rfl, loops_of ⟨l117_0 N, trivial⟩, by kernel_rfl, by kernel_rfl, fun _ => by kernel_rfl⟩
theorem good117 (N : Nat) : Go.L.Good (e117 N) := good_of ⟨gd116 N, trivial⟩
theorem gd117 (N : Nat) : CalOk Tryz.prog 117 (.full (mkFun ks117 rs117 (F117 N))) := mkFun_good (fine117 N) (good117 N)

/-! ### 51: code.is -/
def F51 (N : Nat) : Int × H → Option (Bool × H)
 | (a0, h) =>
 (if (decide (a0 ≥ 1)) = true then (
 some ((decide (a0 ≤ 46)), h))
 else (
 some (false, h))).bind fun (b1, h2) =>
 some (b1, h2)
abbrev ks51 : List SK := [.one (.int .i64)]
abbrev rs51 : List SK := [.one .bool]
def e51 (N : Nat) : Env := ⟨Tryz.prog, 9, inTab [], inTab [], natTab [], inTab [], calTab [], altTab [], loopTab [], natTab [], inTab []⟩
theorem fine51 (N : Nat) : Fine (e51 N) N 51 Tryz.f51 ks51 rs51 (F51 N) :=
  ⟨Tryz.func51, by kernel_rfl, by kernel_rfl, by kernel_rfl, loops_of trivial, by kernel_rfl, by kernel_rfl, fun _ => by kernel_rfl⟩
theorem good51 (N : Nat) : Go.L.Good (e51 N) := good_of trivial
theorem gd51 : CalOk Tryz.prog 51 (.pure (mkP ks51 rs51 (F51 100))) := mkP_good (fine51 100) (good51 100) (by kernel_rfl) (by kernel_rfl)

/-! ### 236: code.same -/
def F236 (N : Nat) : Int × Int × (Nat × Nat) × ByteArray × Int × Int × V × H → Option (Bool × H)
 | (a0_0, a0_1, a0_2, a0_3, a0_4, a0_5, a0_6, h) =>
 (if (a0_0 == 0) = true then (
 some ((a0_1 == 0), h))
 else (
 some (false, h))).bind fun (b1, h2) =>
 (if b1 = true then (
 some ((Op.floatEq .f64 a0_2.1 0 && Op.floatEq .f64 a0_2.2 0), h2))
 else (
 some (false, h2))).bind fun (b3, h4) =>
 (if b3 = true then (
 some (((a0_3).toList == ((ByteArray.mk #[])).toList), h4))
 else (
 some (false, h4))).bind fun (b5, h6) =>
 (if b5 = true then (
 some (((a0_4 == 0) && ((a0_5 == 0) && true)), h6))
 else (
 some (false, h6))).bind fun (b7, h8) =>
 (if b7 = true then (
 (slen a0_6).bind fun n11 =>
 some ((n11 == 0), h8))
 else (
 some (false, h8))).bind fun (b9, h10) =>
 some (b9, h10)
abbrev ks236 : List SK := [.agg [(.int .i64), (.int .i64), (.cplx .f64), .str, (.int .i64), (.int .i64), .ref]]
abbrev rs236 : List SK := [.one .bool]
def e236 (N : Nat) : Env := ⟨Tryz.prog, 33, inTab [1], inTab [], natTab [(1, 1), (3, 1), (7, 1), (12, 1), (17, 1), (22, 1), (28, 1)], inTab [], calTab [], altTab [], loopTab [], natTab [], inTab []⟩
theorem fine236 (N : Nat) : Fine (e236 N) N 236 Tryz.f236 ks236 rs236 (F236 N) :=
  ⟨Tryz.func236, by kernel_rfl, by kernel_rfl, by kernel_rfl, loops_of trivial, by kernel_rfl, by kernel_rfl, fun _ => by kernel_rfl⟩
theorem good236 (N : Nat) : Go.L.Good (e236 N) := good_of trivial
theorem gd236 (N : Nat) : CalOk Tryz.prog 236 (.ro (mkFun ks236 rs236 (F236 N))) := mkFun_ro (fine236 N) (good236 N) (by kernel_rfl)

/-! ### 172: code.may -/
def F172 (N : Nat) : ByteArray × V × ByteArray × Int × Int × V × Int × Int × Int × Int × Int × (Nat × Nat) × ByteArray × Int × Int × V × V × H → Option (Bool × H)
 | (a0_0, a0_1, a1_0, a1_1, a1_2, a1_3, a2_0, a2_1, a2_2, a2_3, a2_4, a2_5, a2_6, a2_7, a2_8, a2_9, a2_10, h) =>
 (F51 100 (a2_0, [])).bind fun (x1, _) =>
 (if (!x1) = true then (
 some (true, h))
 else (
 (if (a2_0 != 1) = true then (
 (F236 N (a2_3, a2_4, (a2_5.1, a2_5.2), a2_6, a2_7, a2_8, a2_9, h)).bind fun (x6, _) =>
 some ((!x6), h))
 else (
 some (false, h))).bind fun (b4, h5) =>
 some (b4, h5))).bind fun (b2, h3) =>
 (if b2 = true then (
 some (true, h3))
 else (
 (if (a2_0 != 27) = true then (
 some ((a2_0 != 33), h3))
 else (
 some (false, h3))).bind fun (b9, h10) =>
 (if b9 = true then (
 (slen a2_10).bind fun n13 =>
 some ((decide (n13 > 0)), h10))
 else (
 some (false, h10))).bind fun (b11, h12) =>
 some (b11, h12))).bind fun (b7, h8) =>
 (if b7 = true then (
 some (true, h8))
 else (
 (if (a2_0 != 34) = true then (
 some ((a2_0 != 33), h8))
 else (
 some (false, h8))).bind fun (b16, h17) =>
 (if b16 = true then (
 some ((a2_2 != 0), h17))
 else (
 some (false, h17))).bind fun (b18, h19) =>
 some (b18, h19))).bind fun (b14, h15) =>
 (if b14 = true then (
 none)
 else (
 (if (a2_0 == 1) = true then (
 none)
 else (
 (if (a2_0 == 3) = true then (
 none)
 else (
 ((if (a2_0 == 4) = true then (
 some (a2_0, (a2_0 == 4), h15))
 else (
 some (a2_0, (a2_0 == 5), h15))) : Option (Int × Bool × H)).bind fun (x20, x21, h22) =>
 (if x21 = true then (
 none)
 else (
 (if (x20 == 17) = true then (
 none)
 else (
 ((if (x20 == 18) = true then (
 some (x20, (x20 == 18), h22))
 else (
 some (x20, (x20 == 19), h22))) : Option (Int × Bool × H)).bind fun (x23, x24, h25) =>
 (if x24 = true then (
 none)
 else (
 (if (x23 == 25) = true then (
 (if (x23 == 25) = true then (
 some (true, h25))
 else (
 none)))
 else (
 none))))))))))))))
abbrev ks172 : List SK := [.agg [.str, .ref], .agg [.str, (.int .i64), (.int .i64), .ref], .agg [(.int .i64), (.int .i64), (.int .i64), (.int .i64), (.int .i64), (.cplx .f64), .str, (.int .i64), (.int .i64), .ref, .ref]]
abbrev rs172 : List SK := [.one .bool]
def e172 (N : Nat) : Env := ⟨Tryz.prog, 156, inTab [3, 4, 5], inTab [], natTab [(3, 3), (4, 4), (5, 5), (7, 5), (12, 5), (16, 5), (23, 5), (27, 5), (32, 5), (39, 5), (43, 5), (48, 5), (53, 5), (57, 5), (61, 5), (68, 5), (74, 5), (76, 4), (81, 5), (85, 5), (92, 5), (100, 5), (102, 3), (108, 5), (110, 3), (115, 5), (121, 5), (123, 4), (128, 5), (132, 5), (137, 5), (141, 5), (147, 5), (149, 4), (153, 5)], inTab [], calTab [(51, .pure (mkP ks51 rs51 (F51 100))), (236, .ro (mkFun ks236 rs236 (F236 N)))], altTab [(2415919175, [⟨.normal, [54, 71], [.one (.int .i64), .one .bool], [], []⟩]), (3758096473, [⟨.normal, [54, 89], [.one (.int .i64), .one .bool], [], []⟩])], loopTab [], natTab [], inTab [2, 5, 7, 10, 12, 15, 17, 19, 20, 21, 22, 23, 24, 25, 26, 27]⟩
theorem fine172 (N : Nat) : Fine (e172 N) N 172 Tryz.f172 ks172 rs172 (F172 N) :=
  ⟨Tryz.func172, by kernel_rfl, by kernel_rfl, by kernel_rfl, loops_of trivial, by kernel_rfl, by kernel_rfl, fun _ => by kernel_rfl⟩
theorem good172 (N : Nat) : Go.L.Good (e172 N) := good_of ⟨gd51, ⟨gd236 N, trivial⟩⟩
theorem gd172 (N : Nat) : CalOk Tryz.prog 172 (.ro (mkFun ks172 rs172 (F172 N))) := mkFun_ro (fine172 N) (good172 N) (by kernel_rfl)

/-! ### 173: code.goes -/
def L173_0 (N : Nat) : Nat → V × Int × Int × H → Option (V × H)
 | 0, _ => none
 | n + 1, (x8, x9, x10, h11) =>
 (if (decide (x10 < x9)) = true then (
 none)
 else (
 some (x8, h11)))
def F173 (N : Nat) : Int × Int × Int × Int × Int × (Nat × Nat) × ByteArray × Int × Int × V × V × H → Option (V × H)
 | (a0_0, a0_1, a0_2, a0_3, a0_4, a0_5, a0_6, a0_7, a0_8, a0_9, a0_10, h) =>
 (if (a0_0 == 25) = true then (
 (if (a0_0 == 25) = true then (
 (happ h .nils 1 1 [(.int .i64 a0_1)]).bind fun (v1, h2) =>
 (slen a0_10).bind fun n3 =>
 (L173_0 N N (v1, n3, 0, h2)).bind fun (x12, h13) =>
 some (x12, h13))
 else (
 none)))
 else (
 none))
abbrev ks173 : List SK := [.agg [(.int .i64), (.int .i64), (.int .i64), (.int .i64), (.int .i64), (.cplx .f64), .str, (.int .i64), (.int .i64), .ref, .ref]]
abbrev rs173 : List SK := [.one .ref]
def e173 (N : Nat) : Env := ⟨Tryz.prog, 41, inTab [1, 5, 15, 25, 37], inTab [], natTab [(1, 1), (5, 5), (6, 1), (13, 1), (19, 1), (23, 1), (27, 1), (35, 5)], inTab [], calTab [], altTab [], loopTab [(11, ⟨⟨.normal, [3, 29, 30], [.one .ref, .one (.int .i64), .one (.int .i64)], [], []⟩, [⟨(.exit 1), [3], [.one .ref], [], []⟩], L173_0 N⟩)], natTab [], inTab [4, 5, 7, 8, 9, 12, 13, 14]⟩
theorem l173_0 (N : Nat) : ∀ A, (e173 N).lp (lid (loopAt Tryz.f173 0)) = some A → LoopOk (e173 N) N (loopAt Tryz.f173 0) A :=
  loopOk_of (A := ⟨⟨.normal, [3, 29, 30], [.one .ref, .one (.int .i64), .one (.int .i64)], [], []⟩, [⟨(.exit 1), [3], [.one .ref], [], []⟩], L173_0 N⟩) (by kernel_rfl) (fun _ => rfl) (fun _ _ => by kernel_rfl)
theorem fine173 (N : Nat) : Fine (e173 N) N 173 Tryz.f173 ks173 rs173 (F173 N) :=
  ⟨Tryz.func173, by kernel_rfl, by kernel_rfl, by kernel_rfl, loops_of ⟨l173_0 N, trivial⟩, by kernel_rfl, by kernel_rfl, fun _ => by kernel_rfl⟩
theorem good173 (N : Nat) : Go.L.Good (e173 N) := good_of trivial
theorem gd173 (N : Nat) : CalOk Tryz.prog 173 (.full (mkFun ks173 rs173 (F173 N))) := mkFun_good (fine173 N) (good173 N)

/-! ### 174: code.within -/
def F174 (N : Nat) : Int × Int × H → Option (Bool × H)
 | (a0, a1, h) =>
 (if (decide (a0 ≥ 0)) = true then (
 some ((decide (a0 < a1)), h))
 else (
 some (false, h))).bind fun (b1, h2) =>
 some (b1, h2)
abbrev ks174 : List SK := [.one (.int .i64), .one (.int .i64)]
abbrev rs174 : List SK := [.one .bool]
def e174 (N : Nat) : Env := ⟨Tryz.prog, 12, inTab [], inTab [], natTab [], inTab [], calTab [], altTab [], loopTab [], natTab [], inTab []⟩
theorem fine174 (N : Nat) : Fine (e174 N) N 174 Tryz.f174 ks174 rs174 (F174 N) :=
  ⟨Tryz.func174, by kernel_rfl, by kernel_rfl, by kernel_rfl, loops_of trivial, by kernel_rfl, by kernel_rfl, fun _ => by kernel_rfl⟩
theorem good174 (N : Nat) : Go.L.Good (e174 N) := good_of trivial
theorem gd174 : CalOk Tryz.prog 174 (.pure (mkP ks174 rs174 (F174 100))) := mkP_good (fine174 100) (good174 100) (by kernel_rfl) (by kernel_rfl)

/-! ### 118: code.coded -/
def L118_1 (N : Nat) : Nat → V × Int × Int × V × Int × Int × ByteArray × V × ByteArray × Int × Int × V × H → Option (V × Int × Int × ByteArray × V × ByteArray × Int × Int × V × H)
 | 0, _ => none
 | n + 1, (x45, x46, x47, x48, x49, x50, x51, x52, x53, x54, x55, x56, h57) =>
 (if (decide (x50 < x49)) = true then (
 (sidx x48 x50 1).bind fun q58 =>
 (L.asInt .i64 (rd h57 q58 0)).bind fun x59 =>
 (slen x56).bind fun n60 =>
 (F174 100 (x59, n60, [])).bind fun (x61, _) =>
 (if (!x61) = true then (
 none)
 else (
 L118_1 N n (x45, x46, x47, x48, x49, (IntKind.i64.wrap (x50 + 1)), x51, x52, x53, x54, x55, x56, h57))))
 else (
 some (x45, x46, x47, x51, x52, x53, x54, x55, x56, h57)))
def L118_0 (N : Nat) : Nat → V × Int × Int × ByteArray × V × ByteArray × Int × Int × V × H → Option (H)
 | 0, _ => none
 | n + 1, (x72, x73, x74, x75, x76, x77, x78, x79, x80, h81) =>
 (if (decide (x74 < x73)) = true then (
 (sidx x72 x74 11).bind fun q82 =>
 (L.asInt .i64 (rd h81 q82 0)).bind fun x83 =>
 (L.asInt .i64 (rd h81 q82 1)).bind fun x84 =>
 (L.asInt .i64 (rd h81 q82 2)).bind fun x85 =>
 (L.asInt .i64 (rd h81 q82 3)).bind fun x86 =>
 (L.asInt .i64 (rd h81 q82 4)).bind fun x87 =>
 (L.asCplx .f64 (rd h81 q82 5)).bind fun x88 =>
 (L.asStr (rd h81 q82 6)).bind fun x89 =>
 (L.asInt .i64 (rd h81 q82 7)).bind fun x90 =>
 (L.asInt .i64 (rd h81 q82 8)).bind fun x91 =>
 ((rd h81 q82 9)).bind fun x92 =>
 ((rd h81 q82 10)).bind fun x93 =>
 (F172 N (x75, x76, x77, x78, x79, x80, x83, x84, x85, x86, x87, (x88.1, x88.2), x89, x90, x91, x92, x93, h81)).bind fun (x94, _) =>
 (if (!x94) = true then (
 none)
 else (
 (F173 N (x83, x84, x85, x86, x87, (x88.1, x88.2), x89, x90, x91, x92, x93, h81)).bind fun (x95, h96) =>
 (slen x95).bind fun n97 =>
 (L118_1 N N (x72, x73, x74, x95, n97, 0, x75, x76, x77, x78, x79, x80, h96)).bind fun (x98, x99, x100, x101, x102, x103, x104, x105, x106, h107) =>
 L118_0 N n (x98, x99, (IntKind.i64.wrap (x100 + 1)), x101, x102, x103, x104, x105, x106, h107))))
 else (
 some h81))
def F118 (N : Nat) : ByteArray × V × ByteArray × Int × Int × V × H → Option (Int × Int × H)
 | (a0_0, a0_1, a1_0, a1_1, a1_2, a1_3, h) =>
 (slen a1_3).bind fun n1 =>
 (L118_0 N N (a1_3, n1, 0, a0_0, a0_1, a1_0, a1_1, a1_2, a1_3, h)).bind fun h108 =>
 some (0, 0, h108)
abbrev ks118 : List SK := [.agg [.str, .ref], .agg [.str, (.int .i64), (.int .i64), .ref]]
abbrev rs118 : List SK := [.one (.int .i64), .one (.int .i64)]
def e118 (N : Nat) : Env := ⟨Tryz.prog, 40, inTab [2, 3, 7], inTab [], natTab [(2, 2), (3, 3), (7, 7), (10, 3), (32, 3)], inTab [], calTab [(172, .ro (mkFun ks172 rs172 (F172 N))), (173, .full (mkFun ks173 rs173 (F173 N))), (174, .pure (mkP ks174 rs174 (F174 100)))], altTab [], loopTab [(2, ⟨⟨.normal, [2, 3, 11, 12, 13], [.lp 2 0, .lp 3 0, .one .ref, .one (.int .i64), .one (.int .i64)], [2, 3], [.cells [.str, .ref], .cells [.str, (.int .i64), (.int .i64), .ref]]⟩, [⟨(.exit 0), [], [], [], []⟩], L118_0 N⟩), (7, ⟨⟨.normal, [2, 3, 11, 12, 13, 25, 26, 27], [.lp 2 0, .lp 3 0, .one .ref, .one (.int .i64), .one (.int .i64), .one .ref, .one (.int .i64), .one (.int .i64)], [2, 3], [.cells [.str, .ref], .cells [.str, (.int .i64), (.int .i64), .ref]]⟩, [⟨(.exit 2), [2, 3, 11, 12, 13], [.lp 2 0, .lp 3 0, .one .ref, .one (.int .i64), .one (.int .i64)], [2, 3], [.cells [.str, .ref], .cells [.str, (.int .i64), (.int .i64), .ref]]⟩], L118_1 N⟩)], natTab [], inTab [5, 10]⟩
theorem l118_0 (N : Nat) : ∀ A, (e118 N).lp (lid (loopAt Tryz.f118 0)) = some A → LoopOk (e118 N) N (loopAt Tryz.f118 0) A :=
  loopOk_of (A := ⟨⟨.normal, [2, 3, 11, 12, 13], [.lp 2 0, .lp 3 0, .one .ref, .one (.int .i64), .one (.int .i64)], [2, 3], [.cells [.str, .ref], .cells [.str, (.int .i64), (.int .i64), .ref]]⟩, [⟨(.exit 0), [], [], [], []⟩], L118_0 N⟩) (by kernel_rfl) (fun _ => rfl) (fun _ _ => by kernel_rfl)
theorem l118_1 (N : Nat) : ∀ A, (e118 N).lp (lid (loopAt Tryz.f118 1)) = some A → LoopOk (e118 N) N (loopAt Tryz.f118 1) A :=
  loopOk_of (A := ⟨⟨.normal, [2, 3, 11, 12, 13, 25, 26, 27], [.lp 2 0, .lp 3 0, .one .ref, .one (.int .i64), .one (.int .i64), .one .ref, .one (.int .i64), .one (.int .i64)], [2, 3], [.cells [.str, .ref], .cells [.str, (.int .i64), (.int .i64), .ref]]⟩, [⟨(.exit 2), [2, 3, 11, 12, 13], [.lp 2 0, .lp 3 0, .one .ref, .one (.int .i64), .one (.int .i64)], [2, 3], [.cells [.str, .ref], .cells [.str, (.int .i64), (.int .i64), .ref]]⟩], L118_1 N⟩) (by kernel_rfl) (fun _ => rfl) (fun _ _ => by kernel_rfl)
theorem fine118 (N : Nat) : Fine (e118 N) N 118 Tryz.f118 ks118 rs118 (F118 N) :=
  ⟨Tryz.func118, by kernel_rfl, by kernel_rfl, by kernel_rfl, loops_of ⟨l118_0 N, ⟨l118_1 N, trivial⟩⟩, by kernel_rfl, by kernel_rfl, fun _ => by kernel_rfl⟩
theorem good118 (N : Nat) : Go.L.Good (e118 N) := good_of ⟨gd172 N, ⟨gd173 N, ⟨gd174, trivial⟩⟩⟩
theorem gd118 (N : Nat) : CalOk Tryz.prog 118 (.full (mkFun ks118 rs118 (F118 N))) := mkFun_good (fine118 N) (good118 N)

/-! ### 43: code.Effect -/
def F43 (N : Nat) : ByteArray × V × Int × Int × Int × Int × Int × (Nat × Nat) × ByteArray × Int × Int × V × V × H → Option (Int × Int × Int × H)
 | (a0_0, a0_1, a1_0, a1_1, a1_2, a1_3, a1_4, a1_5, a1_6, a1_7, a1_8, a1_9, a1_10, h) =>
 (F51 100 (a1_0, [])).bind fun (x1, _) =>
 (if (!x1) = true then (
 none)
 else (
 ((if (a1_0 == 3) = true then (
 some (a1_0, (a1_0 == 3), h))
 else (
 (if (a1_0 == 18) = true then (
 some (a1_0, (a1_0 == 18), h))
 else (
 some (a1_0, (a1_0 == 19), h))))) : Option (Int × Bool × H)).bind fun (x2, x3, h4) =>
 (if x3 = true then (
 none)
 else (
 ((if (x2 == 28) = true then (
 some (x2, (x2 == 28), h4))
 else (
 some (x2, (x2 == 34), h4))) : Option (Int × Bool × H)).bind fun (x5, x6, h7) =>
 (if x6 = true then (
 none)
 else (
 ((if (x5 == 1) = true then (
 some (x5, (x5 == 1), h7))
 else (
 (if (x5 == 4) = true then (
 some (x5, (x5 == 4), h7))
 else (
 (if (x5 == 30) = true then (
 some (x5, (x5 == 30), h7))
 else (
 some (x5, (x5 == 31), h7))))))) : Option (Int × Bool × H)).bind fun (x8, x9, h10) =>
 (if x9 = true then (
 none)
 else (
 (if (x8 == 25) = true then (
 (if (x8 == 25) = true then (
 some (0, 0, 0, h10))
 else (
 none)))
 else (
 none))))))))))
abbrev ks43 : List SK := [.agg [.str, .ref], .agg [(.int .i64), (.int .i64), (.int .i64), (.int .i64), (.int .i64), (.cplx .f64), .str, (.int .i64), (.int .i64), .ref, .ref]]
abbrev rs43 : List SK := [.one (.int .i64), .one (.int .i64), .one (.int .i64)]
def e43 (N : Nat) : Env := ⟨Tryz.prog, 98, inTab [2, 3], inTab [], natTab [(2, 2), (3, 3), (7, 3), (11, 3), (17, 3), (21, 3), (25, 3), (28, 3), (31, 3), (34, 3), (39, 3), (43, 3), (45, 2), (51, 2), (53, 3), (60, 2), (62, 3)], inTab [], calTab [(51, .pure (mkP ks51 rs51 (F51 100)))], altTab [(1342177293, [⟨.normal, [12, 13], [.one (.int .i64), .one .bool], [], []⟩]), (3489660964, [⟨.normal, [12, 36], [.one (.int .i64), .one .bool], [], []⟩]), (4831838275, [⟨.normal, [12, 67], [.one (.int .i64), .one .bool], [], []⟩])], loopTab [], natTab [], inTab [2, 7, 8, 9, 10, 11, 14, 15, 16, 21, 23, 24, 26, 27, 28, 29, 30, 31, 32, 33, 34, 35, 36, 37, 38, 39, 40, 41, 42, 43, 44, 45, 46, 47, 48]⟩
theorem fine43 (N : Nat) : Fine (e43 N) N 43 Tryz.f43 ks43 rs43 (F43 N) :=
  ⟨Tryz.func43, by kernel_rfl, by kernel_rfl, by kernel_rfl, loops_of trivial, by kernel_rfl, by kernel_rfl, fun _ => by kernel_rfl⟩
theorem good43 (N : Nat) : Go.L.Good (e43 N) := good_of ⟨gd51, trivial⟩
theorem gd43 (N : Nat) : CalOk Tryz.prog 43 (.ro (mkFun ks43 rs43 (F43 N))) := mkFun_ro (fine43 N) (good43 N) (by kernel_rfl)

/-! ### 175: code.leads -/
def F175 (N : Nat) : Int × Int × Int × Int × Int × (Nat × Nat) × ByteArray × Int × Int × V × V × Int × H → Option (V × H)
 | (a0_0, a0_1, a0_2, a0_3, a0_4, a0_5, a0_6, a0_7, a0_8, a0_9, a0_10, a1, h) =>
 (if (a0_0 == 25) = true then (
 (if (a0_0 == 25) = true then (
 (F173 N (a0_0, a0_1, a0_2, a0_3, a0_4, (a0_5.1, a0_5.2), a0_6, a0_7, a0_8, a0_9, a0_10, h)).bind fun (x1, h2) =>
 (scells h2 x1 1).bind fun cs5 =>
 (happ h2 .nils 1 (snlen x1) cs5).bind fun (v3, h4) =>
 some (v3, h4))
 else (
 none)))
 else (
 none))
abbrev ks175 : List SK := [.agg [(.int .i64), (.int .i64), (.int .i64), (.int .i64), (.int .i64), (.cplx .f64), .str, (.int .i64), (.int .i64), .ref, .ref], .one (.int .i64)]
abbrev rs175 : List SK := [.one .ref]
def e175 (N : Nat) : Env := ⟨Tryz.prog, 23, inTab [2, 11], inTab [], natTab [(2, 2), (6, 2)], inTab [], calTab [(173, .full (mkFun ks173 rs173 (F173 N)))], altTab [], loopTab [], natTab [], inTab [3, 5, 6, 7, 8]⟩
theorem fine175 (N : Nat) : Fine (e175 N) N 175 Tryz.f175 ks175 rs175 (F175 N) :=
  ⟨Tryz.func175, by kernel_rfl, by kernel_rfl, by kernel_rfl, loops_of trivial, by kernel_rfl, by kernel_rfl, fun _ => by kernel_rfl⟩
theorem good175 (N : Nat) : Go.L.Good (e175 N) := good_of ⟨gd173 N, trivial⟩
theorem gd175 (N : Nat) : CalOk Tryz.prog 175 (.full (mkFun ks175 rs175 (F175 N))) := mkFun_good (fine175 N) (good175 N)

/-! ### 119: code.heights -/
def L119_0 (N : Nat) : Nat → V × V × Int × Int × ByteArray × V × ByteArray × Int × Int × V × H → Option (V × V × ByteArray × V × ByteArray × Int × Int × V × H)
 | 0, _ => none
 | n + 1, (x19, x20, x21, x22, x23, x24, x25, x26, x27, x28, h29) =>
 (if (decide (x22 < x21)) = true then (
 (sidx x19 x22 1).bind fun q30 =>
 (wr h29 q30 [(.int .i64 (-1))]).bind fun h31 =>
 L119_0 N n (x19, x20, x21, (IntKind.i64.wrap (x22 + 1)), x23, x24, x25, x26, x27, x28, h31))
 else (
 some (x19, x20, x23, x24, x25, x26, x27, x28, h29)))
def L119_1 (N : Nat) : Nat → V × V × Int × ByteArray × V × ByteArray × Int × Int × V × H → Option (V × V × Int × ByteArray × V × ByteArray × Int × Int × V × H)
 | 0, _ => none
 | n + 1, (x62, x63, x64, x65, x66, x67, x68, x69, x70, h71) =>
 (slen x62).bind fun n72 =>
 (if (decide (x64 < n72)) = true then (
 (sidx x62 x64 1).bind fun q75 =>
 (L.asInt .i64 (rd h71 q75 0)).bind fun x76 =>
 (if (decide (x76 < 0)) = true then (
 some (true, h71))
 else (
 (sidx x63 x64 1).bind fun q79 =>
 (L.asBool (rd h71 q79 0)).bind fun x80 =>
 some (x80, h71))).bind fun (b77, h78) =>
 some (b77, h78))
 else (
 some (false, h71))).bind fun (b73, h74) =>
 (if b73 = true then (
 L119_1 N n (x62, x63, (IntKind.i64.wrap (x64 + 1)), x65, x66, x67, x68, x69, x70, h74))
 else (
 some (x62, x63, x64, x65, x66, x67, x68, x69, x70, h74)))
def L119_2 (N : Nat) : Nat → V × V × Int × Int × V × Int × Int × ByteArray × V × ByteArray × Int × Int × V × H → Option (V × V × Int × ByteArray × V × ByteArray × Int × Int × V × H)
 | 0, _ => none
 | n + 1, (x151, x152, x153, x154, x155, x156, x157, x158, x159, x160, x161, x162, x163, h164) =>
 (if (decide (x157 < x156)) = true then (
 (sidx x155 x157 1).bind fun q165 =>
 (L.asInt .i64 (rd h164 q165 0)).bind fun x166 =>
 (slen x151).bind fun n167 =>
 (if (x166 == n167) = true then (
 none)
 else (
 (sidx x151 x166 1).bind fun q168 =>
 (L.asInt .i64 (rd h164 q168 0)).bind fun x169 =>
 (if (decide (x169 < 0)) = true then (
 none)
 else (
 (sidx x151 x166 1).bind fun q170 =>
 (L.asInt .i64 (rd h164 q170 0)).bind fun x171 =>
 (if (x171 != x153) = true then (
 none)
 else (
 L119_2 N n (x151, x152, x153, x154, x155, x156, (IntKind.i64.wrap (x157 + 1)), x158, x159, x160, x161, x162, x163, h164))))))))
 else (
 some (x151, x152, x154, x158, x159, x160, x161, x162, x163, h164)))
def L119_3 (N : Nat) : Nat → V × V × Int × ByteArray × V × ByteArray × Int × Int × V × H → Option (V × Int × Int × H)
 | 0, _ => none
 | n + 1, (x251, x252, x253, x254, x255, x256, x257, x258, x259, h260) =>
 (L119_1 N N (x251, x252, x253, x254, x255, x256, x257, x258, x259, h260)).bind fun (x261, x262, x263, x264, x265, x266, x267, x268, x269, h270) =>
 (slen x261).bind fun n271 =>
 (if (x263 == n271) = true then (
 some (x261, 0, 0, h270))
 else (
 (sidx x262 x263 1).bind fun q272 =>
 (wr h270 q272 [(.bool true)]).bind fun h273 =>
 (sidx x269 x263 11).bind fun q274 =>
 (L.asInt .i64 (rd h273 q274 0)).bind fun x275 =>
 (L.asInt .i64 (rd h273 q274 1)).bind fun x276 =>
 (L.asInt .i64 (rd h273 q274 2)).bind fun x277 =>
 (L.asInt .i64 (rd h273 q274 3)).bind fun x278 =>
 (L.asInt .i64 (rd h273 q274 4)).bind fun x279 =>
 (L.asCplx .f64 (rd h273 q274 5)).bind fun x280 =>
 (L.asStr (rd h273 q274 6)).bind fun x281 =>
 (L.asInt .i64 (rd h273 q274 7)).bind fun x282 =>
 (L.asInt .i64 (rd h273 q274 8)).bind fun x283 =>
 ((rd h273 q274 9)).bind fun x284 =>
 ((rd h273 q274 10)).bind fun x285 =>
 (F43 N (x264, x265, x275, x276, x277, x278, x279, (x280.1, x280.2), x281, x282, x283, x284, x285, h273)).bind fun (x286, x287, x288, _) =>
 (sidx x261 x263 1).bind fun q289 =>
 (L.asInt .i64 (rd h273 q289 0)).bind fun x290 =>
 (sidx x261 x263 1).bind fun q291 =>
 (L.asInt .i64 (rd h273 q291 0)).bind fun x292 =>
 (if (decide (x286 > x292)) = true then (
 some (true, h273))
 else (
 some ((decide ((IntKind.i64.wrap ((IntKind.i64.wrap (x290 - x286)) + x287)) > 256)), h273))).bind fun (b293, h294) =>
 (if b293 = true then (
 none)
 else (
 (sidx x269 x263 11).bind fun q295 =>
 (L.asInt .i64 (rd h294 q295 0)).bind fun x296 =>
 (L.asInt .i64 (rd h294 q295 1)).bind fun x297 =>
 (L.asInt .i64 (rd h294 q295 2)).bind fun x298 =>
 (L.asInt .i64 (rd h294 q295 3)).bind fun x299 =>
 (L.asInt .i64 (rd h294 q295 4)).bind fun x300 =>
 (L.asCplx .f64 (rd h294 q295 5)).bind fun x301 =>
 (L.asStr (rd h294 q295 6)).bind fun x302 =>
 (L.asInt .i64 (rd h294 q295 7)).bind fun x303 =>
 (L.asInt .i64 (rd h294 q295 8)).bind fun x304 =>
 ((rd h294 q295 9)).bind fun x305 =>
 ((rd h294 q295 10)).bind fun x306 =>
 (F175 N (x296, x297, x298, x299, x300, (x301.1, x301.2), x302, x303, x304, x305, x306, x263, h294)).bind fun (x307, h308) =>
 (slen x307).bind fun n309 =>
 (L119_2 N N (x261, x262, (IntKind.i64.wrap ((IntKind.i64.wrap (x290 - x286)) + x287)), x263, x307, n309, 0, x264, x265, x266, x267, x268, x269, h308)).bind fun (x310, x311, x312, x313, x314, x315, x316, x317, x318, h319) =>
 L119_3 N n (x310, x311, x312, x313, x314, x315, x316, x317, x318, h319)))))
def F119 (N : Nat) : ByteArray × V × ByteArray × Int × Int × V × H → Option (V × Int × Int × H)
 | (a0_0, a0_1, a1_0, a1_1, a1_2, a1_3, h) =>
 (slen a1_3).bind fun n1 =>
 (if 0 ≤ n1 then (if n1 ≤ n1 then (if n1 * ((1 : Nat) : Int) ≤ ((mostCells : Nat) : Int) then (
 (some (h ++ [O.cells 0 (repeatC (Int.toNat n1) [(.int .i64 0)])]) : Option H).bind fun h2 =>
 (slen a1_3).bind fun n3 =>
 (if 0 ≤ n3 then (if n3 ≤ n3 then (if n3 * ((1 : Nat) : Int) ≤ ((mostCells : Nat) : Int) then (
 (some (h2 ++ [O.cells 0 (repeatC (Int.toNat n3) [(.bool false)])]) : Option H).bind fun h4 =>
 (slen (.sl (h).length 0 0 (Int.toNat n1) 1 (some (Int.toNat n1)))).bind fun n5 =>
 (L119_0 N N ((.sl (h).length 0 0 (Int.toNat n1) 1 (some (Int.toNat n1))), (.sl (h2).length 0 0 (Int.toNat n3) 1 (some (Int.toNat n3))), n5, 0, a0_0, a0_1, a1_0, a1_1, a1_2, a1_3, h4)).bind fun (x32, x33, x34, x35, x36, x37, x38, x39, h40) =>
 (sidx x32 0 1).bind fun q41 =>
 (wr h40 q41 [(.int .i64 0)]).bind fun h42 =>
 (L119_1 N N (x32, x33, 0, x34, x35, x36, x37, x38, x39, h42)).bind fun (x81, x82, x83, x84, x85, x86, x87, x88, x89, h90) =>
 (slen x81).bind fun n91 =>
 (if (x83 == n91) = true then (
 some (x81, 0, 0, h90))
 else (
 (sidx x82 x83 1).bind fun q92 =>
 (wr h90 q92 [(.bool true)]).bind fun h93 =>
 (sidx x89 x83 11).bind fun q94 =>
 (L.asInt .i64 (rd h93 q94 0)).bind fun x95 =>
 (L.asInt .i64 (rd h93 q94 1)).bind fun x96 =>
 (L.asInt .i64 (rd h93 q94 2)).bind fun x97 =>
 (L.asInt .i64 (rd h93 q94 3)).bind fun x98 =>
 (L.asInt .i64 (rd h93 q94 4)).bind fun x99 =>
 (L.asCplx .f64 (rd h93 q94 5)).bind fun x100 =>
 (L.asStr (rd h93 q94 6)).bind fun x101 =>
 (L.asInt .i64 (rd h93 q94 7)).bind fun x102 =>
 (L.asInt .i64 (rd h93 q94 8)).bind fun x103 =>
 ((rd h93 q94 9)).bind fun x104 =>
 ((rd h93 q94 10)).bind fun x105 =>
 (F43 N (x84, x85, x95, x96, x97, x98, x99, (x100.1, x100.2), x101, x102, x103, x104, x105, h93)).bind fun (x106, x107, x108, _) =>
 (sidx x81 x83 1).bind fun q109 =>
 (L.asInt .i64 (rd h93 q109 0)).bind fun x110 =>
 (sidx x81 x83 1).bind fun q111 =>
 (L.asInt .i64 (rd h93 q111 0)).bind fun x112 =>
 (if (decide (x106 > x112)) = true then (
 some (true, h93))
 else (
 some ((decide ((IntKind.i64.wrap ((IntKind.i64.wrap (x110 - x106)) + x107)) > 256)), h93))).bind fun (b113, h114) =>
 (if b113 = true then (
 none)
 else (
 (sidx x89 x83 11).bind fun q115 =>
 (L.asInt .i64 (rd h114 q115 0)).bind fun x116 =>
 (L.asInt .i64 (rd h114 q115 1)).bind fun x117 =>
 (L.asInt .i64 (rd h114 q115 2)).bind fun x118 =>
 (L.asInt .i64 (rd h114 q115 3)).bind fun x119 =>
 (L.asInt .i64 (rd h114 q115 4)).bind fun x120 =>
 (L.asCplx .f64 (rd h114 q115 5)).bind fun x121 =>
 (L.asStr (rd h114 q115 6)).bind fun x122 =>
 (L.asInt .i64 (rd h114 q115 7)).bind fun x123 =>
 (L.asInt .i64 (rd h114 q115 8)).bind fun x124 =>
 ((rd h114 q115 9)).bind fun x125 =>
 ((rd h114 q115 10)).bind fun x126 =>
 (F175 N (x116, x117, x118, x119, x120, (x121.1, x121.2), x122, x123, x124, x125, x126, x83, h114)).bind fun (x127, h128) =>
 (slen x127).bind fun n129 =>
 (L119_2 N N (x81, x82, (IntKind.i64.wrap ((IntKind.i64.wrap (x110 - x106)) + x107)), x83, x127, n129, 0, x84, x85, x86, x87, x88, x89, h128)).bind fun (x172, x173, x174, x175, x176, x177, x178, x179, x180, h181) =>
 (L119_3 N N (x172, x173, x174, x175, x176, x177, x178, x179, x180, h181)).bind fun (x320, x321, x322, h323) =>
 some (x320, x321, x322, h323)))))) else none) else none) else none)) else none) else none) else none)
abbrev ks119 : List SK := [.agg [.str, .ref], .agg [.str, (.int .i64), (.int .i64), .ref]]
abbrev rs119 : List SK := [.one .ref, .one (.int .i64), .one (.int .i64)]
def e119 (N : Nat) : Env := ⟨Tryz.prog, 136, inTab [2, 3], inTab [], natTab [(2, 2), (3, 3), (18, 3), (22, 3), (66, 3), (95, 3)], inTab [], calTab [(43, .ro (mkFun ks43 rs43 (F43 N))), (175, .full (mkFun ks175 rs175 (F175 N)))], altTab [], loopTab [(4, ⟨⟨.normal, [2, 3, 7, 8, 27, 28], [.lp 2 0, .lp 3 0, .one .ref, .one .ref, .one (.int .i64), .one (.int .i64)], [2, 3], [.cells [.str, .ref], .cells [.str, (.int .i64), (.int .i64), .ref]]⟩, [⟨(.exit 0), [2, 3, 7, 8], [.lp 2 0, .lp 3 0, .one .ref, .one .ref], [2, 3], [.cells [.str, .ref], .cells [.str, (.int .i64), (.int .i64), .ref]]⟩], L119_0 N⟩), (10, ⟨⟨.normal, [2, 3, 7, 8, 10], [.lp 2 0, .lp 3 0, .one .ref, .one .ref, .one (.int .i64)], [2, 3], [.cells [.str, .ref], .cells [.str, (.int .i64), (.int .i64), .ref]]⟩, [⟨(.exit 2), [2, 3, 7, 8, 10], [.lp 2 0, .lp 3 0, .one .ref, .one .ref, .one (.int .i64)], [2, 3], [.cells [.str, .ref], .cells [.str, (.int .i64), (.int .i64), .ref]]⟩], L119_1 N⟩), (21, ⟨⟨.normal, [2, 3, 7, 8, 14, 15, 101, 102, 103], [.lp 2 0, .lp 3 0, .one .ref, .one .ref, .one (.int .i64), .one (.int .i64), .one .ref, .one (.int .i64), .one (.int .i64)], [2, 3], [.cells [.str, .ref], .cells [.str, (.int .i64), (.int .i64), .ref]]⟩, [⟨(.exit 4), [2, 3, 7, 8, 15], [.lp 2 0, .lp 3 0, .one .ref, .one .ref, .one (.int .i64)], [2, 3], [.cells [.str, .ref], .cells [.str, (.int .i64), (.int .i64), .ref]]⟩], L119_2 N⟩), (1000000, ⟨⟨.normal, [2, 3, 7, 8, 10], [.lp 2 0, .lp 3 0, .one .ref, .one .ref, .one (.int .i64)], [2, 3], [.cells [.str, .ref], .cells [.str, (.int .i64), (.int .i64), .ref]]⟩, [⟨.ret, [4, 5, 6], [.one .ref, .one (.int .i64), .one (.int .i64)], [], []⟩], L119_3 N⟩)], natTab [], inTab [18, 24, 26, 27, 29]⟩
theorem l119_0 (N : Nat) : ∀ A, (e119 N).lp (lid (loopAt Tryz.f119 1)) = some A → LoopOk (e119 N) N (loopAt Tryz.f119 1) A :=
  loopOk_of (A := ⟨⟨.normal, [2, 3, 7, 8, 27, 28], [.lp 2 0, .lp 3 0, .one .ref, .one .ref, .one (.int .i64), .one (.int .i64)], [2, 3], [.cells [.str, .ref], .cells [.str, (.int .i64), (.int .i64), .ref]]⟩, [⟨(.exit 0), [2, 3, 7, 8], [.lp 2 0, .lp 3 0, .one .ref, .one .ref], [2, 3], [.cells [.str, .ref], .cells [.str, (.int .i64), (.int .i64), .ref]]⟩], L119_0 N⟩) (by kernel_rfl) (fun _ => rfl) (fun _ _ => by kernel_rfl)
theorem l119_1 (N : Nat) : ∀ A, (e119 N).lp (lid (loopAt Tryz.f119 2)) = some A → LoopOk (e119 N) N (loopAt Tryz.f119 2) A :=
  loopOk_of (A := ⟨⟨.normal, [2, 3, 7, 8, 10], [.lp 2 0, .lp 3 0, .one .ref, .one .ref, .one (.int .i64)], [2, 3], [.cells [.str, .ref], .cells [.str, (.int .i64), (.int .i64), .ref]]⟩, [⟨(.exit 2), [2, 3, 7, 8, 10], [.lp 2 0, .lp 3 0, .one .ref, .one .ref, .one (.int .i64)], [2, 3], [.cells [.str, .ref], .cells [.str, (.int .i64), (.int .i64), .ref]]⟩], L119_1 N⟩) (by kernel_rfl) (fun _ => rfl) (fun _ _ => by kernel_rfl)
theorem l119_2 (N : Nat) : ∀ A, (e119 N).lp (lid (loopAt Tryz.f119 3)) = some A → LoopOk (e119 N) N (loopAt Tryz.f119 3) A :=
  loopOk_of (A := ⟨⟨.normal, [2, 3, 7, 8, 14, 15, 101, 102, 103], [.lp 2 0, .lp 3 0, .one .ref, .one .ref, .one (.int .i64), .one (.int .i64), .one .ref, .one (.int .i64), .one (.int .i64)], [2, 3], [.cells [.str, .ref], .cells [.str, (.int .i64), (.int .i64), .ref]]⟩, [⟨(.exit 4), [2, 3, 7, 8, 15], [.lp 2 0, .lp 3 0, .one .ref, .one .ref, .one (.int .i64)], [2, 3], [.cells [.str, .ref], .cells [.str, (.int .i64), (.int .i64), .ref]]⟩], L119_2 N⟩) (by kernel_rfl) (fun _ => rfl) (fun _ _ => by kernel_rfl)
theorem l119_3 (N : Nat) : ∀ A, (e119 N).lp (lbKey 0) = some A → LabelOk (e119 N) N 0 (loopAt Tryz.f119 0) A :=
  labelOk_of (A := ⟨⟨.normal, [2, 3, 7, 8, 10], [.lp 2 0, .lp 3 0, .one .ref, .one .ref, .one (.int .i64)], [2, 3], [.cells [.str, .ref], .cells [.str, (.int .i64), (.int .i64), .ref]]⟩, [⟨.ret, [4, 5, 6], [.one .ref, .one (.int .i64), .one (.int .i64)], [], []⟩], L119_3 N⟩) (by kernel_rfl) (fun _ => rfl) (fun _ _ => by kernel_rfl)
theorem fine119 (N : Nat) : Fine (e119 N) N 119 Tryz.f119 ks119 rs119 (F119 N) :=
  ⟨Tryz.func119, by kernel_rfl, by kernel_rfl, by kernel_rfl, loops_of ⟨l119_3 N, ⟨l119_0 N, ⟨l119_1 N, ⟨l119_2 N, trivial⟩⟩⟩⟩, by kernel_rfl, by kernel_rfl, fun _ => by kernel_rfl⟩
theorem good119 (N : Nat) : Go.L.Good (e119 N) := good_of ⟨gd43 N, ⟨gd175 N, trivial⟩⟩
theorem gd119 (N : Nat) : CalOk Tryz.prog 119 (.full (mkFun ks119 rs119 (F119 N))) := mkFun_good (fine119 N) (good119 N)

/-! ### 56: code.Check -/
def L56_0 (N : Nat) : Nat → Int × Int × ByteArray × V × H → Option (ByteArray × V × H)
 | 0, _ => none
 | n + 1, (x17, x18, x19, x20, h21) =>
 (if (decide (x18 < x17)) = true then (
 (F117 N (x19, x20, x18, h21)).bind fun (x22, h23) =>
 (if (!x22) = true then (
 none)
 else (
 L56_0 N n (x17, (IntKind.i64.wrap (x18 + 1)), x19, x20, h23))))
 else (
 some (x19, x20, h21)))
def L56_1 (N : Nat) : Nat → V × Int × Int × ByteArray × V × H → Option (ByteArray × V × H)
 | 0, _ => none
 | n + 1, (x42, x43, x44, x45, x46, h47) =>
 (if (decide (x44 < x43)) = true then (
 (sidx x42 x44 4).bind fun q48 =>
 (L.asStr (rd h47 q48 0)).bind fun x49 =>
 (L.asInt .i64 (rd h47 q48 1)).bind fun x50 =>
 (L.asInt .i64 (rd h47 q48 2)).bind fun x51 =>
 ((rd h47 q48 3)).bind fun x52 =>
 (F118 N (x45, x46, x49, x50, x51, x52, h47)).bind fun (x53, x54, h55) =>
 (if (x53 != 0) = true then (
 none)
 else (
 L56_1 N n (x42, x43, (IntKind.i64.wrap (x44 + 1)), x45, x46, h55))))
 else (
 some (x45, x46, h47)))
def L56_2 (N : Nat) : Nat → V × Int × Int × ByteArray × V × H → Option (H)
 | 0, _ => none
 | n + 1, (x75, x76, x77, x78, x79, h80) =>
 (if (decide (x77 < x76)) = true then (
 (sidx x75 x77 4).bind fun q81 =>
 (L.asStr (rd h80 q81 0)).bind fun x82 =>
 (L.asInt .i64 (rd h80 q81 1)).bind fun x83 =>
 (L.asInt .i64 (rd h80 q81 2)).bind fun x84 =>
 ((rd h80 q81 3)).bind fun x85 =>
 (F119 N (x78, x79, x82, x83, x84, x85, h80)).bind fun (x86, x87, x88, h89) =>
 (if (x87 != 0) = true then (
 none)
 else (
 L56_2 N n (x75, x76, (IntKind.i64.wrap (x77 + 1)), x78, x79, h89))))
 else (
 some h80))
def F56 (N : Nat) : ByteArray × V × H → Option (Int × Int × Int × H)
 | (a0_0, a0_1, h) =>
 (F116 N (a0_0, h)).bind fun (x1, h2) =>
 (if (!x1) = true then (
 some (true, h2))
 else (
 (slen a0_1).bind fun n5 =>
 some ((decide (n5 < 1)), h2))).bind fun (b3, h4) =>
 (if b3 = true then (
 some (true, h4))
 else (
 (slen a0_1).bind fun n8 =>
 some ((decide (n8 > 64)), h4))).bind fun (b6, h7) =>
 (if b6 = true then (
 none)
 else (
 (slen a0_1).bind fun n9 =>
 (L56_0 N N (n9, 0, a0_0, a0_1, h7)).bind fun (x24, x25, h26) =>
 (slen x25).bind fun n27 =>
 (L56_1 N N (x25, n27, 0, x24, x25, h26)).bind fun (x56, x57, h58) =>
 (slen x57).bind fun n59 =>
 (L56_2 N N (x57, n59, 0, x56, x57, h58)).bind fun h90 =>
 some (0, 0, 0, h90)))
abbrev ks56 : List SK := [.agg [.str, .ref]]
abbrev rs56 : List SK := [.one (.int .i64), .one (.int .i64), .one (.int .i64)]
def e56 (N : Nat) : Env := ⟨Tryz.prog, 84, inTab [1, 7, 11], inTab [], natTab [(1, 1), (7, 7), (11, 11), (15, 1), (20, 1), (26, 1), (31, 1), (43, 1), (63, 1)], inTab [], calTab [(116, .full (mkFun ks116 rs116 (F116 N))), (117, .full (mkFun ks117 rs117 (F117 N))), (118, .full (mkFun ks118 rs118 (F118 N))), (119, .full (mkFun ks119 rs119 (F119 N)))], altTab [], loopTab [(4, ⟨⟨.normal, [1, 33, 34], [.lp 1 0, .one (.int .i64), .one (.int .i64)], [1], [.cells [.str, .ref]]⟩, [⟨(.exit 0), [1], [.lp 1 0], [1], [.cells [.str, .ref]]⟩], L56_0 N⟩), (10, ⟨⟨.normal, [1, 44, 45, 46], [.lp 1 0, .one .ref, .one (.int .i64), .one (.int .i64)], [1], [.cells [.str, .ref]]⟩, [⟨(.exit 2), [1], [.lp 1 0], [1], [.cells [.str, .ref]]⟩], L56_1 N⟩), (17, ⟨⟨.normal, [1, 64, 65, 66], [.lp 1 0, .one .ref, .one (.int .i64), .one (.int .i64)], [1], [.cells [.str, .ref]]⟩, [⟨(.exit 4), [], [], [], []⟩], L56_2 N⟩)], natTab [], inTab [2, 7, 14, 21]⟩
theorem l56_0 (N : Nat) : ∀ A, (e56 N).lp (lid (loopAt Tryz.f56 0)) = some A → LoopOk (e56 N) N (loopAt Tryz.f56 0) A :=
  loopOk_of (A := ⟨⟨.normal, [1, 33, 34], [.lp 1 0, .one (.int .i64), .one (.int .i64)], [1], [.cells [.str, .ref]]⟩, [⟨(.exit 0), [1], [.lp 1 0], [1], [.cells [.str, .ref]]⟩], L56_0 N⟩) (by kernel_rfl) (fun _ => rfl) (fun _ _ => by kernel_rfl)
theorem l56_1 (N : Nat) : ∀ A, (e56 N).lp (lid (loopAt Tryz.f56 1)) = some A → LoopOk (e56 N) N (loopAt Tryz.f56 1) A :=
  loopOk_of (A := ⟨⟨.normal, [1, 44, 45, 46], [.lp 1 0, .one .ref, .one (.int .i64), .one (.int .i64)], [1], [.cells [.str, .ref]]⟩, [⟨(.exit 2), [1], [.lp 1 0], [1], [.cells [.str, .ref]]⟩], L56_1 N⟩) (by kernel_rfl) (fun _ => rfl) (fun _ _ => by kernel_rfl)
theorem l56_2 (N : Nat) : ∀ A, (e56 N).lp (lid (loopAt Tryz.f56 2)) = some A → LoopOk (e56 N) N (loopAt Tryz.f56 2) A :=
  loopOk_of (A := ⟨⟨.normal, [1, 64, 65, 66], [.lp 1 0, .one .ref, .one (.int .i64), .one (.int .i64)], [1], [.cells [.str, .ref]]⟩, [⟨(.exit 4), [], [], [], []⟩], L56_2 N⟩) (by kernel_rfl) (fun _ => rfl) (fun _ _ => by kernel_rfl)
theorem fine56 (N : Nat) : Fine (e56 N) N 56 Tryz.f56 ks56 rs56 (F56 N) :=
  ⟨Tryz.func56, by kernel_rfl, by kernel_rfl, by kernel_rfl, loops_of ⟨l56_0 N, ⟨l56_1 N, ⟨l56_2 N, trivial⟩⟩⟩, by kernel_rfl, by kernel_rfl, fun _ => by kernel_rfl⟩
theorem good56 (N : Nat) : Go.L.Good (e56 N) := good_of ⟨gd116 N, ⟨gd117 N, ⟨gd118 N, ⟨gd119 N, trivial⟩⟩⟩⟩
theorem gd56 (N : Nat) : CalOk Tryz.prog 56 (.full (mkFun ks56 rs56 (F56 N))) := mkFun_good (fine56 N) (good56 N)

/-! ### 346: api.Func] -/
def F346 (N : Nat) : V × H → Option (V × H)
 | (a0, h) =>
 (isNilS a0).bind fun b1 =>
 (if b1 = true then (
 none)
 else (
 (some (h ++ [O.cells 0 []]) : Option H).bind fun h2 =>
 (scells h2 a0 4).bind fun cs5 =>
 (happ h2 (.sl (h).length 0 0 0 4 (some 0)) 4 (snlen a0) cs5).bind fun (v3, h4) =>
 some (v3, h4)))
abbrev ks346 : List SK := [.one .ref]
abbrev rs346 : List SK := [.one .ref]
def e346 (N : Nat) : Env := ⟨Tryz.prog, 8, inTab [], inTab [], natTab [], inTab [], calTab [], altTab [], loopTab [], natTab [], inTab [2]⟩
theorem fine346 (N : Nat) : Fine (e346 N) N 346 Tryz.f346 ks346 rs346 (F346 N) :=
  ⟨Tryz.func346, by kernel_rfl, by kernel_rfl, by kernel_rfl, loops_of trivial, by kernel_rfl, by kernel_rfl, fun _ => by kernel_rfl⟩
theorem good346 (N : Nat) : Go.L.Good (e346 N) := good_of trivial
theorem gd346 (N : Nat) : CalOk Tryz.prog 346 (.full (mkFun ks346 rs346 (F346 N))) := mkFun_good (fine346 N) (good346 N)

/-! ### 347: api.Instr] -/
def F347 (N : Nat) : V × H → Option (V × H)
 | (a0, h) =>
 (isNilS a0).bind fun b1 =>
 (if b1 = true then (
 none)
 else (
 (some (h ++ [O.cells 0 []]) : Option H).bind fun h2 =>
 (scells h2 a0 11).bind fun cs5 =>
 (happ h2 (.sl (h).length 0 0 0 11 (some 0)) 11 (snlen a0) cs5).bind fun (v3, h4) =>
 some (v3, h4)))
abbrev ks347 : List SK := [.one .ref]
abbrev rs347 : List SK := [.one .ref]
def e347 (N : Nat) : Env := ⟨Tryz.prog, 8, inTab [], inTab [], natTab [], inTab [], calTab [], altTab [], loopTab [], natTab [], inTab [2]⟩
theorem fine347 (N : Nat) : Fine (e347 N) N 347 Tryz.f347 ks347 rs347 (F347 N) :=
  ⟨Tryz.func347, by kernel_rfl, by kernel_rfl, by kernel_rfl, loops_of trivial, by kernel_rfl, by kernel_rfl, fun _ => by kernel_rfl⟩
theorem good347 (N : Nat) : Go.L.Good (e347 N) := good_of trivial
theorem gd347 (N : Nat) : CalOk Tryz.prog 347 (.full (mkFun ks347 rs347 (F347 N))) := mkFun_good (fine347 N) (good347 N)

/-! ### 348: api.Arm] -/
def F348 (N : Nat) : V × H → Option (V × H)
 | (a0, h) =>
 (isNilS a0).bind fun b1 =>
 (if b1 = true then (
 some (.nils, h))
 else (
 none))
abbrev ks348 : List SK := [.one .ref]
abbrev rs348 : List SK := [.one .ref]
def e348 (N : Nat) : Env := ⟨Tryz.prog, 8, inTab [], inTab [], natTab [], inTab [], calTab [], altTab [], loopTab [], natTab [], inTab [3]⟩
theorem fine348 (N : Nat) : Fine (e348 N) N 348 Tryz.f348 ks348 rs348 (F348 N) :=
  ⟨Tryz.func348, by kernel_rfl, by kernel_rfl, by kernel_rfl, loops_of trivial, by kernel_rfl, by kernel_rfl, fun _ => by kernel_rfl⟩
theorem good348 (N : Nat) : Go.L.Good (e348 N) := good_of trivial
theorem gd348 (N : Nat) : CalOk Tryz.prog 348 (.ro (mkFun ks348 rs348 (F348 N))) := mkFun_ro (fine348 N) (good348 N) (by kernel_rfl)

/-! ### 264: node.copied -/
def L264_1 (N : Nat) : Nat → Int × Int × Int × Int × Int × ByteArray × V × ByteArray × V × H → Option (Int × Int × ByteArray × V × ByteArray × V × H)
 | 0, _ => none
 | n + 1, (x39, x40, x41, x42, x43, x44, x45, x46, x47, h48) =>
 (if (decide (x43 < x42)) = true then (
 (sidx x47 x39 4).bind fun q49 =>
 ((rd h48 (padd q49 3) 0)).bind fun x50 =>
 (sidx x47 x39 4).bind fun q51 =>
 ((rd h48 (padd q51 3) 0)).bind fun x52 =>
 (sidx x52 x43 11).bind fun q53 =>
 ((rd h48 (padd q53 10) 0)).bind fun x54 =>
 (F348 N (x54, h48)).bind fun (x55, _) =>
 (sidx x50 x43 11).bind fun q56 =>
 (ck1 x55).bind fun _ =>
 (wr h48 (padd q56 10) [x55]).bind fun h57 =>
 L264_1 N n (x39, x40, x41, x42, (IntKind.i64.wrap (x43 + 1)), x44, x45, x46, x47, h57))
 else (
 some (x40, x41, x44, x45, x46, x47, h48)))
def L264_0 (N : Nat) : Nat → Int × Int × ByteArray × V × ByteArray × V × H → Option (ByteArray × V × ByteArray × V × H)
 | 0, _ => none
 | n + 1, (x65, x66, x67, x68, x69, x70, h71) =>
 (if (decide (x66 < x65)) = true then (
 (sidx x70 x66 4).bind fun q72 =>
 ((rd h71 (padd q72 3) 0)).bind fun x73 =>
 (F347 N (x73, h71)).bind fun (x74, h75) =>
 (sidx x70 x66 4).bind fun q76 =>
 (ck1 x74).bind fun _ =>
 (wr h75 (padd q76 3) [x74]).bind fun h77 =>
 (sidx x70 x66 4).bind fun q78 =>
 ((rd h77 (padd q78 3) 0)).bind fun x79 =>
 (slen x79).bind fun n80 =>
 (L264_1 N N (x66, x65, x66, n80, 0, x67, x68, x69, x70, h77)).bind fun (x81, x82, x83, x84, x85, x86, h87) =>
 L264_0 N n (x81, (IntKind.i64.wrap (x82 + 1)), x83, x84, x85, x86, h87))
 else (
 some (x67, x68, x69, x70, h71)))
def F264 (N : Nat) : ByteArray × V × H → Option (ByteArray × V × H)
 | (a0_0, a0_1, h) =>
 (F346 N (a0_1, h)).bind fun (x1, h2) =>
 (ck1 x1).bind fun _ =>
 (slen x1).bind fun n3 =>
 (L264_0 N N (n3, 0, (ByteArray.mk #[]), .nils, a0_0, x1, h2)).bind fun (x88, x89, x90, x91, h92) =>
 some (x90, x91, h92)
abbrev ks264 : List SK := [.agg [.str, .ref]]
abbrev rs264 : List SK := [.agg [.str, .ref]]
def e264 (N : Nat) : Env := ⟨Tryz.prog, 63, inTab [1, 2, 3], inTab [], natTab [(1, 1), (2, 2), (3, 3), (6, 1), (8, 1), (12, 3), (18, 3), (21, 3), (30, 3), (40, 3), (47, 3)], inTab [], calTab [(346, .full (mkFun ks346 rs346 (F346 N))), (347, .full (mkFun ks347 rs347 (F347 N))), (348, .ro (mkFun ks348 rs348 (F348 N)))], altTab [], loopTab [(3, ⟨⟨.normal, [2, 3, 14, 15], [.lp 2 0, .lp 3 0, .one (.int .i64), .one (.int .i64)], [2, 3], [.cells [.str, .ref], .cells [.str, .ref]]⟩, [⟨(.exit 0), [2, 3], [.lp 2 0, .lp 3 0], [2, 3], [.cells [.str, .ref], .cells [.str, .ref]]⟩], L264_0 N⟩), (7, ⟨⟨.normal, [2, 3, 4, 14, 15, 36, 37], [.lp 2 0, .lp 3 0, .one (.int .i64), .one (.int .i64), .one (.int .i64), .one (.int .i64), .one (.int .i64)], [2, 3], [.cells [.str, .ref], .cells [.str, .ref]]⟩, [⟨(.exit 2), [2, 3, 14, 15], [.lp 2 0, .lp 3 0, .one (.int .i64), .one (.int .i64)], [2, 3], [.cells [.str, .ref], .cells [.str, .ref]]⟩], L264_1 N⟩)], natTab [], inTab []⟩
theorem l264_0 (N : Nat) : ∀ A, (e264 N).lp (lid (loopAt Tryz.f264 0)) = some A → LoopOk (e264 N) N (loopAt Tryz.f264 0) A :=
  loopOk_of (A := ⟨⟨.normal, [2, 3, 14, 15], [.lp 2 0, .lp 3 0, .one (.int .i64), .one (.int .i64)], [2, 3], [.cells [.str, .ref], .cells [.str, .ref]]⟩, [⟨(.exit 0), [2, 3], [.lp 2 0, .lp 3 0], [2, 3], [.cells [.str, .ref], .cells [.str, .ref]]⟩], L264_0 N⟩) (by kernel_rfl) (fun _ => rfl) (fun _ _ => by kernel_rfl)
theorem l264_1 (N : Nat) : ∀ A, (e264 N).lp (lid (loopAt Tryz.f264 1)) = some A → LoopOk (e264 N) N (loopAt Tryz.f264 1) A :=
  loopOk_of (A := ⟨⟨.normal, [2, 3, 4, 14, 15, 36, 37], [.lp 2 0, .lp 3 0, .one (.int .i64), .one (.int .i64), .one (.int .i64), .one (.int .i64), .one (.int .i64)], [2, 3], [.cells [.str, .ref], .cells [.str, .ref]]⟩, [⟨(.exit 2), [2, 3, 14, 15], [.lp 2 0, .lp 3 0, .one (.int .i64), .one (.int .i64)], [2, 3], [.cells [.str, .ref], .cells [.str, .ref]]⟩], L264_1 N⟩) (by kernel_rfl) (fun _ => rfl) (fun _ _ => by kernel_rfl)
theorem fine264 (N : Nat) : Fine (e264 N) N 264 Tryz.f264 ks264 rs264 (F264 N) :=
  ⟨Tryz.func264, by kernel_rfl, by kernel_rfl, by kernel_rfl, loops_of ⟨l264_0 N, ⟨l264_1 N, trivial⟩⟩, by kernel_rfl, by kernel_rfl, fun _ => by kernel_rfl⟩
theorem good264 (N : Nat) : Go.L.Good (e264 N) := good_of ⟨gd346 N, ⟨gd347 N, ⟨gd348 N, trivial⟩⟩⟩
theorem gd264 (N : Nat) : CalOk Tryz.prog 264 (.full (mkFun ks264 rs264 (F264 N))) := mkFun_good (fine264 N) (good264 N)
theorem gl264 (N : Nat) : CalOk Tryz.prog 264 (.gro (mkFun ks264 rs264 (locF true ks264 rs264 (F264 N)))) := loc_gro (gd264 N)

/-! ### 265: node.Node).done -/
def F265 (N : Nat) : V × List V × H → Option (H)
 | (a0, a1, h) =>
 (if (a1).length = 29 then (
 (nck a0).bind fun _ =>
 ((rd h (padd a0 11) 0)).bind fun x1 =>
 ((if 0 + 29 ≤ (a1).length then some (((a1).drop 0).take 29) else none) : Option (List V)).bind fun cs2 =>
 (if (cs2).length = 29 then (
 (if 0 + (cs2).length ≤ 29 then (
 (scells h (.rs 29 (chunks 29 1 (splice [(.int .i64 0), (.int .i64 0), (.int .i64 0), (.int .i64 0), (.int .i64 0), (.int .i64 0), (.int .i64 0), .nils, (.int .i64 0), (.bool false), .nils, .nils, (.int .i64 0), (.int .i64 0), (.int .i64 0), (.int .i64 0), (.int .i64 0), (.int .i64 0), (.int .i64 0), (.int .i64 0), (.cplx .f64 0 0), (.str (ByteArray.mk #[])), (.int .i64 0), (.int .i64 0), .nils, (.int .i64 0), (.int .i64 0), .nils, .nils] 0 cs2))) 29).bind fun cs5 =>
 (happ h x1 29 (snlen (.rs 29 (chunks 29 1 (splice [(.int .i64 0), (.int .i64 0), (.int .i64 0), (.int .i64 0), (.int .i64 0), (.int .i64 0), (.int .i64 0), .nils, (.int .i64 0), (.bool false), .nils, .nils, (.int .i64 0), (.int .i64 0), (.int .i64 0), (.int .i64 0), (.int .i64 0), (.int .i64 0), (.int .i64 0), (.int .i64 0), (.cplx .f64 0 0), (.str (ByteArray.mk #[])), (.int .i64 0), (.int .i64 0), .nils, (.int .i64 0), (.int .i64 0), .nils, .nils] 0 cs2)))) cs5).bind fun (v3, h4) =>
 (nck a0).bind fun _ =>
 (ck1 v3).bind fun _ =>
 (wr h4 (padd a0 11) [v3]).bind fun h6 =>
 some h6) else none)) else none)) else none)
abbrev ks265 : List SK := [.one .ref, .blk]
abbrev rs265 : List SK := []
def e265 (N : Nat) : Env := ⟨Tryz.prog, 14, inTab [3, 10], inTab [], natTab [(3, 3)], inTab [], calTab [], altTab [], loopTab [], natTab [], inTab []⟩
theorem fine265 (N : Nat) : Fine (e265 N) N 265 Tryz.f265 ks265 rs265 (F265 N) :=
  ⟨Tryz.func265, by kernel_rfl, by kernel_rfl, by kernel_rfl, loops_of trivial, by kernel_rfl, by kernel_rfl, fun _ => by kernel_rfl⟩
theorem good265 (N : Nat) : Go.L.Good (e265 N) := good_of trivial
theorem gd265 (N : Nat) : CalOk Tryz.prog 265 (.full (mkFun ks265 rs265 (F265 N))) := mkFun_good (fine265 N) (good265 N)

/-! ### 205: node.Node).Load -/
def F205 (N : Nat) : V × ByteArray × V × H → Option (Int × Int × H)
 | (a0, a1_0, a1_1, h) =>
 (F263 N (a0, h)).bind fun (x1, _) =>
 (if (x1 != 0) = true then (
 none)
 else (
 (F56 N (a1_0, a1_1, h)).bind fun (x2, x3, x4, h5) =>
 (if (x2 != 0) = true then (
 none)
 else (
 (nck a0).bind fun _ =>
 ((rd h5 (padd a0 1) 0)).bind fun x6 =>
 (slen x6).bind fun n7 =>
 (if (decide (n7 ≥ 32)) = true then (
 none)
 else (
 (nck a0).bind fun _ =>
 ((rd h5 (padd a0 1) 0)).bind fun x8 =>
 Option.bind (α := (ByteArray × V × H)) (locF true ks264 rs264 (F264 N) ((a1_0, a1_1, h5) : ByteArray × V × H)) fun (x9, x10, h11) =>
 (happ h11 x8 2 1 [(.str x9), x10]).bind fun (v12, h13) =>
 (nck a0).bind fun _ =>
 (ck1 v12).bind fun _ =>
 (wr h13 (padd a0 1) [v12]).bind fun h14 =>
 (nck a0).bind fun _ =>
 ((rd h14 (padd a0 1) 0)).bind fun x15 =>
 (slen x15).bind fun n16 =>
 Option.bind (α := (ByteArray × V × H)) (locF true ks264 rs264 (F264 N) ((a1_0, a1_1, h14) : ByteArray × V × H)) fun (x17, x18, h19) =>
 (some (h19 ++ [O.cells 0 [(.str x17), x18]]) : Option H).bind fun h20 =>
 (ck1 (.sl (h19).length 0 0 1 2 (some 1))).bind fun _ =>
 (F265 N (a0, [(.int .i64 1), (.int .i64 0), (.int .i64 0), (.int .i64 (IntKind.i64.wrap (n16 - 1))), (.int .i64 0), (.int .i64 0), (.int .i64 0), .nils, (.int .i64 0), (.bool false), .nils, .nils, (.int .i64 0), (.int .i64 0), (.int .i64 0), (.int .i64 0), (.int .i64 0), (.int .i64 0), (.int .i64 0), (.int .i64 0), (.cplx .f64 0 0), (.str (ByteArray.mk #[])), (.int .i64 0), (.int .i64 0), .nils, (.int .i64 0), (.int .i64 0), .nils, (.sl (h19).length 0 0 1 2 (some 1))], h20)).bind fun h21 =>
 (nck a0).bind fun _ =>
 ((rd h21 (padd a0 1) 0)).bind fun x22 =>
 (slen x22).bind fun n23 =>
 some ((IntKind.i64.wrap (n23 - 1)), 0, h21)))))))
abbrev ks205 : List SK := [.one .ref, .agg [.str, .ref]]
abbrev rs205 : List SK := [.one (.int .i64), .one (.int .i64)]
def e205 (N : Nat) : Env := ⟨Tryz.prog, 59, inTab [3, 37], inTab [], natTab [(3, 3)], inTab [], calTab [(263, .ro (mkFun ks263 rs263 (F263 N))), (56, .full (mkFun ks56 rs56 (F56 N))), (264, .gro (mkFun ks264 rs264 (locF true ks264 rs264 (F264 N)))), (265, .full (mkFun ks265 rs265 (F265 N)))], altTab [], loopTab [], natTab [], inTab [3, 6, 8]⟩
theorem fine205 (N : Nat) : Fine (e205 N) N 205 Tryz.f205 ks205 rs205 (F205 N) :=
  ⟨Tryz.func205, by kernel_rfl, by kernel_rfl, by kernel_rfl, loops_of trivial, by kernel_rfl, by kernel_rfl, fun _ => by kernel_rfl⟩
theorem good205 (N : Nat) : Go.L.Good (e205 N) := good_of ⟨gd263 N, ⟨gd56 N, ⟨gl264 N, ⟨gd265 N, trivial⟩⟩⟩⟩
theorem gd205 (N : Nat) : CalOk Tryz.prog 205 (.full (mkFun ks205 rs205 (F205 N))) := mkFun_good (fine205 N) (good205 N)
theorem gl205 (N : Nat) : CalOk Tryz.prog 205 (.full (mkFun ks205 rs205 (locF false ks205 rs205 (F205 N)))) := loc_full (gd205 N)

/-! ### 266: homes.Mod -/
def F266 (N : Nat) : Int × Int × H → Option (Int × Int × H)
 | (a0, a1, h) =>
 (if (decide (a1 < 1)) = true then (
 none)
 else (
 (if a1 = 0 then none else (
 (if (decide ((Int.tmod a0 a1) < 0)) = true then (
 none)
 else (
 some ((Int.tmod a0 a1), 0, h)))))))
abbrev ks266 : List SK := [.one (.int .i64), .one (.int .i64)]
abbrev rs266 : List SK := [.one (.int .i64), .one (.int .i64)]
def e266 (N : Nat) : Env := ⟨Tryz.prog, 18, inTab [], inTab [], natTab [], inTab [], calTab [], altTab [], loopTab [], natTab [], inTab [2, 5]⟩
theorem fine266 (N : Nat) : Fine (e266 N) N 266 Tryz.f266 ks266 rs266 (F266 N) :=
  ⟨Tryz.func266, by kernel_rfl, by kernel_rfl, by kernel_rfl, loops_of trivial, by kernel_rfl, by kernel_rfl, fun _ => by kernel_rfl⟩
theorem good266 (N : Nat) : Go.L.Good (e266 N) := good_of trivial
theorem gd266 : CalOk Tryz.prog 266 (.pure (mkP ks266 rs266 (F266 100))) := mkP_good (fine266 100) (good266 100) (by kernel_rfl) (by kernel_rfl)

/-! ### 57: frame.New -/
def F57 (N : Nat) : H → Option (V × H)
 | h =>
 (some (h ++ [O.cells 0 [(.bool true), .nils, .nils]]) : Option H).bind fun h1 =>
 some ((.ptr (h).length 0 0), h1)
abbrev ks57 : List SK := []
abbrev rs57 : List SK := [.one .ref]
def e57 (N : Nat) : Env := ⟨Tryz.prog, 3, inTab [], inTab [], natTab [], inTab [], calTab [], altTab [], loopTab [], natTab [], inTab []⟩
theorem fine57 (N : Nat) : Fine (e57 N) N 57 Tryz.f57 ks57 rs57 (F57 N) :=
  ⟨Tryz.func57, by kernel_rfl, by kernel_rfl, by kernel_rfl, loops_of trivial, by kernel_rfl, by kernel_rfl, fun _ => by kernel_rfl⟩
theorem good57 (N : Nat) : Go.L.Good (e57 N) := good_of trivial
theorem gdg57 (N : Nat) : CalOk Tryz.prog 57 (.gro (mkFun ks57 rs57 (F57 N))) := mkFun_groC (fine57 N) (good57 N) (by kernel_rfl)

/-! ### 49: frame.Stack).lives -/
def F49 (N : Nat) : V × H → Option (Bool × H)
 | (a0, h) =>
 (isNil a0).bind fun b1 =>
 (if (!b1) = true then (
 (nck a0).bind fun _ =>
 (L.asBool (rd h (padd a0 0) 0)).bind fun x4 =>
 some (x4, h))
 else (
 some (false, h))).bind fun (b2, h3) =>
 some (b2, h3)
abbrev ks49 : List SK := [.one .ref]
abbrev rs49 : List SK := [.one .bool]
def e49 (N : Nat) : Env := ⟨Tryz.prog, 11, inTab [], inTab [], natTab [], inTab [], calTab [], altTab [], loopTab [], natTab [], inTab []⟩
theorem fine49 (N : Nat) : Fine (e49 N) N 49 Tryz.f49 ks49 rs49 (F49 N) :=
  ⟨Tryz.func49, by kernel_rfl, by kernel_rfl, by kernel_rfl, loops_of trivial, by kernel_rfl, by kernel_rfl, fun _ => by kernel_rfl⟩
theorem good49 (N : Nat) : Go.L.Good (e49 N) := good_of trivial
theorem gd49 (N : Nat) : CalOk Tryz.prog 49 (.ro (mkFun ks49 rs49 (F49 N))) := mkFun_ro (fine49 N) (good49 N) (by kernel_rfl)

/-! ### 50: frame.Stack).last -/
def F50 (N : Nat) : V × H → Option (V × H)
 | (a0, h) =>
 (F49 N (a0, h)).bind fun (x1, _) =>
 (if (!x1) = true then (
 some (true, h))
 else (
 (nck a0).bind fun _ =>
 ((rd h (padd a0 1) 0)).bind fun x4 =>
 (slen x4).bind fun n5 =>
 some ((n5 == 0), h))).bind fun (b2, h3) =>
 (if b2 = true then (
 some (.nilp, h3))
 else (
 (nck a0).bind fun _ =>
 ((rd h3 (padd a0 1) 0)).bind fun x6 =>
 (nck a0).bind fun _ =>
 ((rd h3 (padd a0 1) 0)).bind fun x7 =>
 (slen x7).bind fun n8 =>
 (sidx x6 (IntKind.i64.wrap (n8 - 1)) 4).bind fun q9 =>
 some (q9, h3)))
abbrev ks50 : List SK := [.one .ref]
abbrev rs50 : List SK := [.one .ref]
def e50 (N : Nat) : Env := ⟨Tryz.prog, 25, inTab [], inTab [], natTab [], inTab [], calTab [(49, .ro (mkFun ks49 rs49 (F49 N)))], altTab [], loopTab [], natTab [], inTab []⟩
theorem fine50 (N : Nat) : Fine (e50 N) N 50 Tryz.f50 ks50 rs50 (F50 N) :=
  ⟨Tryz.func50, by kernel_rfl, by kernel_rfl, by kernel_rfl, loops_of trivial, by kernel_rfl, by kernel_rfl, fun _ => by kernel_rfl⟩
theorem good50 (N : Nat) : Go.L.Good (e50 N) := good_of ⟨gd49 N, trivial⟩
theorem gd50 (N : Nat) : CalOk Tryz.prog 50 (.ro (mkFun ks50 rs50 (F50 N))) := mkFun_ro (fine50 N) (good50 N) (by kernel_rfl)

/-! ### 59: frame.Stack).height -/
def F59 (N : Nat) : V × H → Option (Int × H)
 | (a0, h) =>
 (F50 N (a0, h)).bind fun (x1, _) =>
 (isNil x1).bind fun b2 =>
 (if (!b2) = true then (
 (nck a0).bind fun _ =>
 ((rd h (padd a0 2) 0)).bind fun x3 =>
 (slen x3).bind fun n4 =>
 (nck x1).bind fun _ =>
 (L.asInt .i64 (rd h (padd x1 3) 0)).bind fun x5 =>
 some ((IntKind.i64.wrap (n4 - x5)), h))
 else (
 (nck a0).bind fun _ =>
 ((rd h (padd a0 2) 0)).bind fun x6 =>
 (slen x6).bind fun n7 =>
 some (n7, h)))
abbrev ks59 : List SK := [.one .ref]
abbrev rs59 : List SK := [.one (.int .i64)]
def e59 (N : Nat) : Env := ⟨Tryz.prog, 23, inTab [], inTab [], natTab [], inTab [], calTab [(50, .ro (mkFun ks50 rs50 (F50 N)))], altTab [], loopTab [], natTab [], inTab []⟩
theorem fine59 (N : Nat) : Fine (e59 N) N 59 Tryz.f59 ks59 rs59 (F59 N) :=
  ⟨Tryz.func59, by kernel_rfl, by kernel_rfl, by kernel_rfl, loops_of trivial, by kernel_rfl, by kernel_rfl, fun _ => by kernel_rfl⟩
theorem good59 (N : Nat) : Go.L.Good (e59 N) := good_of ⟨gd50 N, trivial⟩
theorem gd59 (N : Nat) : CalOk Tryz.prog 59 (.ro (mkFun ks59 rs59 (F59 N))) := mkFun_ro (fine59 N) (good59 N) (by kernel_rfl)

/-! ### 75: api.Term] -/
def F75 (N : Nat) : V × H → Option (V × H)
 | (a0, h) =>
 (isNilS a0).bind fun b1 =>
 (if b1 = true then (
 some (.nils, h))
 else (
 none))
abbrev ks75 : List SK := [.one .ref]
abbrev rs75 : List SK := [.one .ref]
def e75 (N : Nat) : Env := ⟨Tryz.prog, 8, inTab [], inTab [], natTab [], inTab [], calTab [], altTab [], loopTab [], natTab [], inTab [3]⟩
theorem fine75 (N : Nat) : Fine (e75 N) N 75 Tryz.f75 ks75 rs75 (F75 N) :=
  ⟨Tryz.func75, by kernel_rfl, by kernel_rfl, by kernel_rfl, loops_of trivial, by kernel_rfl, by kernel_rfl, fun _ => by kernel_rfl⟩
theorem good75 (N : Nat) : Go.L.Good (e75 N) := good_of trivial
theorem gd75 (N : Nat) : CalOk Tryz.prog 75 (.ro (mkFun ks75 rs75 (F75 N))) := mkFun_ro (fine75 N) (good75 N) (by kernel_rfl)

/-! ### 58: frame.Stack).Enter -/
def L58_0 (N : Nat) : Nat → V × Int × Int × Int × V × H → Option (V × Int × Int × V × H)
 | 0, _ => none
 | n + 1, (x30, x31, x32, x33, x34, h35) =>
 (slen x34).bind fun n36 =>
 (if (decide (n36 < x32)) = true then (
 none)
 else (
 some (x30, x31, x33, x34, h35)))
def F58 (N : Nat) : V × Int × Int × Int × H → Option (Int × H)
 | (a0, a1, a2, a3, h) =>
 (F49 N (a0, h)).bind fun (x1, _) =>
 (if (!x1) = true then (
 some (true, h))
 else (
 some ((decide (a1 < 0)), h))).bind fun (b2, h3) =>
 (if b2 = true then (
 some (true, h3))
 else (
 some ((decide (a1 ≥ 64)), h3))).bind fun (b4, h5) =>
 (if b4 = true then (
 some (true, h5))
 else (
 some ((decide (a3 < 0)), h5))).bind fun (b6, h7) =>
 (if b6 = true then (
 some (true, h7))
 else (
 some ((decide (a3 > 32)), h7))).bind fun (b8, h9) =>
 (if b8 = true then (
 some (true, h9))
 else (
 some ((decide (a2 < 0)), h9))).bind fun (b10, h11) =>
 (if b10 = true then (
 some (true, h11))
 else (
 some ((decide (a2 > a3)), h11))).bind fun (b12, h13) =>
 (if b12 = true then (
 none)
 else (
 (F59 N (a0, h13)).bind fun (x14, _) =>
 (if (decide (x14 < a2)) = true then (
 none)
 else (
 (nck a0).bind fun _ =>
 ((rd h13 (padd a0 1) 0)).bind fun x15 =>
 (slen x15).bind fun n16 =>
 (if (decide (n16 ≥ 64)) = true then (
 none)
 else (
 (nck a0).bind fun _ =>
 ((rd h13 (padd a0 2) 0)).bind fun x17 =>
 (slen x17).bind fun n18 =>
 (nck a0).bind fun _ =>
 ((rd h13 (padd a0 2) 0)).bind fun x19 =>
 (slen x19).bind fun n20 =>
 (ssl 7 x19 (IntKind.i64.wrap (n18 - a2)) n20).bind fun v21 =>
 (F75 N (v21, h13)).bind fun (x22, _) =>
 (L58_0 N N (a0, a1, a3, (IntKind.i64.wrap (n18 - a2)), x22, h13)).bind fun (x37, x38, x39, x40, h41) =>
 (nck x37).bind fun _ =>
 ((rd h41 (padd x37 2) 0)).bind fun x42 =>
 (slen x42).bind fun n43 =>
 (ssl 7 x42 0 x39).bind fun v44 =>
 (nck x37).bind fun _ =>
 (ck1 v44).bind fun _ =>
 (wr h41 (padd x37 2) [v44]).bind fun h45 =>
 (nck x37).bind fun _ =>
 ((rd h45 (padd x37 1) 0)).bind fun x46 =>
 (ck1 x40).bind fun _ =>
 (happ h45 x46 4 1 [(.int .i64 x38), (.int .i64 0), x40, (.int .i64 x39)]).bind fun (v47, h48) =>
 (nck x37).bind fun _ =>
 (ck1 v47).bind fun _ =>
 (wr h48 (padd x37 1) [v47]).bind fun h49 =>
 some (0, h49)))))))
abbrev ks58 : List SK := [.one .ref, .one (.int .i64), .one (.int .i64), .one (.int .i64)]
abbrev rs58 : List SK := [.one (.int .i64)]
def e58 (N : Nat) : Env := ⟨Tryz.prog, 94, inTab [69, 90], inTab [], natTab [], inTab [], calTab [(49, .ro (mkFun ks49 rs49 (F49 N))), (59, .ro (mkFun ks59 rs59 (F59 N))), (75, .ro (mkFun ks75 rs75 (F75 N)))], altTab [], loopTab [(9, ⟨⟨.normal, [0, 1, 3, 9, 10], [.one .ref, .one (.int .i64), .one (.int .i64), .one (.int .i64), .one .ref], [], []⟩, [⟨(.exit 0), [0, 1, 9, 10], [.one .ref, .one (.int .i64), .one (.int .i64), .one .ref], [], []⟩], L58_0 N⟩)], natTab [], inTab [2, 4, 6, 10]⟩
theorem l58_0 (N : Nat) : ∀ A, (e58 N).lp (lid (loopAt Tryz.f58 0)) = some A → LoopOk (e58 N) N (loopAt Tryz.f58 0) A :=
  loopOk_of (A := ⟨⟨.normal, [0, 1, 3, 9, 10], [.one .ref, .one (.int .i64), .one (.int .i64), .one (.int .i64), .one .ref], [], []⟩, [⟨(.exit 0), [0, 1, 9, 10], [.one .ref, .one (.int .i64), .one (.int .i64), .one .ref], [], []⟩], L58_0 N⟩) (by kernel_rfl) (fun _ => rfl) (fun _ _ => by kernel_rfl)
theorem fine58 (N : Nat) : Fine (e58 N) N 58 Tryz.f58 ks58 rs58 (F58 N) :=
  ⟨Tryz.func58, by kernel_rfl, by kernel_rfl, by kernel_rfl, loops_of ⟨l58_0 N, trivial⟩, by kernel_rfl, by kernel_rfl, fun _ => by kernel_rfl⟩
theorem good58 (N : Nat) : Go.L.Good (e58 N) := good_of ⟨gd49 N, ⟨gd59 N, ⟨gd75 N, trivial⟩⟩⟩
theorem gd58 (N : Nat) : CalOk Tryz.prog 58 (.full (mkFun ks58 rs58 (F58 N))) := mkFun_good (fine58 N) (good58 N)

/-! ### 33: step.Begin -/
def L33_0 (N : Nat) : Nat → Int × V × V × Int × Int × ByteArray × V × H → Option (Int × V × V × ByteArray × V × H)
 | 0, _ => none
 | n + 1, (x22, x23, x24, x25, x26, x27, x28, h29) =>
 (if (decide (x26 < x25)) = true then (
 none)
 else (
 some (x22, x23, x24, x27, x28, h29)))
def F33 (N : Nat) : ByteArray × V × Int × V × H → Option (V × Int × H)
 | (a0_0, a0_1, a1, a2, h) =>
 (F56 N (a0_0, a0_1, h)).bind fun (x1, x2, x3, h4) =>
 (if (x1 != 0) = true then (
 none)
 else (
 (if (decide (a1 < 0)) = true then (
 some (true, h4))
 else (
 (slen a0_1).bind fun n7 =>
 some ((decide (a1 ≥ n7)), h4))).bind fun (b5, h6) =>
 (if b5 = true then (
 none)
 else (
 (slen a2).bind fun n8 =>
 (sidx a0_1 a1 4).bind fun q9 =>
 (L.asInt .i64 (rd h6 (padd q9 1) 0)).bind fun x10 =>
 (if (n8 != x10) = true then (
 none)
 else (
 (F57 N h6).bind fun (x11, h12) =>
 (slen a2).bind fun n13 =>
 (L33_0 N N (a1, a2, x11, n13, 0, a0_0, a0_1, h12)).bind fun (x30, x31, x32, x33, x34, h35) =>
 (slen x31).bind fun n36 =>
 (sidx x34 x30 4).bind fun q37 =>
 (L.asInt .i64 (rd h35 (padd q37 2) 0)).bind fun x38 =>
 (F58 N (x32, x30, n36, x38, h35)).bind fun (x39, h40) =>
 (if (x39 != 0) = true then (
 none)
 else (
 some (x32, 0, h40)))))))))
abbrev ks33 : List SK := [.agg [.str, .ref], .one (.int .i64), .one .ref]
abbrev rs33 : List SK := [.one .ref, .one (.int .i64)]
def e33 (N : Nat) : Env := ⟨Tryz.prog, 74, inTab [3, 13], inTab [], natTab [(3, 3), (13, 13), (30, 3), (38, 3), (63, 3)], inTab [], calTab [(56, .full (mkFun ks56 rs56 (F56 N))), (57, .gro (mkFun ks57 rs57 (F57 N))), (58, .full (mkFun ks58 rs58 (F58 N)))], altTab [], loopTab [(10, ⟨⟨.normal, [1, 2, 3, 11, 47, 48], [.one (.int .i64), .one .ref, .lp 3 0, .one .ref, .one (.int .i64), .one (.int .i64)], [3], [.cells [.str, .ref]]⟩, [⟨(.exit 1), [1, 2, 3, 11], [.one (.int .i64), .one .ref, .lp 3 0, .one .ref], [3], [.cells [.str, .ref]]⟩], L33_0 N⟩)], natTab [], inTab [3, 5, 7, 11, 12, 13, 14, 15, 18]⟩
theorem l33_0 (N : Nat) : ∀ A, (e33 N).lp (lid (loopAt Tryz.f33 0)) = some A → LoopOk (e33 N) N (loopAt Tryz.f33 0) A :=
  loopOk_of (A := ⟨⟨.normal, [1, 2, 3, 11, 47, 48], [.one (.int .i64), .one .ref, .lp 3 0, .one .ref, .one (.int .i64), .one (.int .i64)], [3], [.cells [.str, .ref]]⟩, [⟨(.exit 1), [1, 2, 3, 11], [.one (.int .i64), .one .ref, .lp 3 0, .one .ref], [3], [.cells [.str, .ref]]⟩], L33_0 N⟩) (by kernel_rfl) (fun _ => rfl) (fun _ _ => by kernel_rfl)
theorem fine33 (N : Nat) : Fine (e33 N) N 33 Tryz.f33 ks33 rs33 (F33 N) :=
  ⟨Tryz.func33, by kernel_rfl, by kernel_rfl, by kernel_rfl, loops_of ⟨l33_0 N, trivial⟩, by kernel_rfl, by kernel_rfl, fun _ => by kernel_rfl⟩
theorem good33 (N : Nat) : Go.L.Good (e33 N) := good_of ⟨gd56 N, ⟨gdg57 N, ⟨gd58 N, trivial⟩⟩⟩
theorem gd33 (N : Nat) : CalOk Tryz.prog 33 (.full (mkFun ks33 rs33 (F33 N))) := mkFun_good (fine33 N) (good33 N)

/-! ### 286: table.Table).given -/
def F286 (N : Nat) : V × H → Option (Bool × H)
 | (a0, h) =>
 (isNil a0).bind fun b1 =>
 (if (!b1) = true then (
 (nck a0).bind fun _ =>
 ((rd h (padd a0 0) 0)).bind fun x4 =>
 (slen x4).bind fun n5 =>
 some ((decide (n5 > 0)), h))
 else (
 some (false, h))).bind fun (b2, h3) =>
 some (b2, h3)
abbrev ks286 : List SK := [.one .ref]
abbrev rs286 : List SK := [.one .bool]
def e286 (N : Nat) : Env := ⟨Tryz.prog, 13, inTab [], inTab [], natTab [], inTab [], calTab [], altTab [], loopTab [], natTab [], inTab []⟩
theorem fine286 (N : Nat) : Fine (e286 N) N 286 Tryz.f286 ks286 rs286 (F286 N) :=
  ⟨Tryz.func286, by kernel_rfl, by kernel_rfl, by kernel_rfl, loops_of trivial, by kernel_rfl, by kernel_rfl, fun _ => by kernel_rfl⟩
theorem good286 (N : Nat) : Go.L.Good (e286 N) := good_of trivial
theorem gd286 (N : Nat) : CalOk Tryz.prog 286 (.ro (mkFun ks286 rs286 (F286 N))) := mkFun_ro (fine286 N) (good286 N) (by kernel_rfl)

/-! ### 418: table.seat] -/
def F418 (N : Nat) : V × H → Option (V × H)
 | (a0, h) =>
 (isNilS a0).bind fun b1 =>
 (if b1 = true then (
 none)
 else (
 (some (h ++ [O.cells 0 []]) : Option H).bind fun h2 =>
 (scells h2 a0 3).bind fun cs5 =>
 (happ h2 (.sl (h).length 0 0 0 3 (some 0)) 3 (snlen a0) cs5).bind fun (v3, h4) =>
 some (v3, h4)))
abbrev ks418 : List SK := [.one .ref]
abbrev rs418 : List SK := [.one .ref]
def e418 (N : Nat) : Env := ⟨Tryz.prog, 8, inTab [], inTab [], natTab [], inTab [], calTab [], altTab [], loopTab [], natTab [], inTab [2]⟩
theorem fine418 (N : Nat) : Fine (e418 N) N 418 Tryz.f418 ks418 rs418 (F418 N) :=
  ⟨Tryz.func418, by kernel_rfl, by kernel_rfl, by kernel_rfl, loops_of trivial, by kernel_rfl, by kernel_rfl, fun _ => by kernel_rfl⟩
theorem good418 (N : Nat) : Go.L.Good (e418 N) := good_of trivial
theorem gd418 (N : Nat) : CalOk Tryz.prog 418 (.full (mkFun ks418 rs418 (F418 N))) := mkFun_good (fine418 N) (good418 N)

/-! ### 349: table.Table).Copy -/
def L349_0 (N : Nat) : Nat → V × V × Int × Int × H → Option (V × H)
 | 0, _ => none
 | n + 1, (x18, x19, x20, x21, h22) =>
 (if (decide (x21 < x20)) = true then (
 (sidx x19 x21 3).bind fun q23 =>
 (L.asInt .i64 (rd h22 q23 0)).bind fun x24 =>
 (L.asBool (rd h22 q23 1)).bind fun x25 =>
 (L.asStr (rd h22 q23 2)).bind fun x26 =>
 (if (!((x26).toList == ((ByteArray.mk #[])).toList)) = true then (
 none)
 else (
 L349_0 N n (x18, x19, x20, (IntKind.i64.wrap (x21 + 1)), h22))))
 else (
 some (x18, h22)))
def F349 (N : Nat) : V × H → Option (V × H)
 | (a0, h) =>
 (F286 N (a0, h)).bind fun (x1, _) =>
 (if (!x1) = true then (
 none)
 else (
 (nck a0).bind fun _ =>
 ((rd h (padd a0 0) 0)).bind fun x2 =>
 (F418 N (x2, h)).bind fun (x3, h4) =>
 (some (h4 ++ [O.map 0 [] []]) : Option H).bind fun h5 =>
 (ck1 x3).bind fun _ =>
 (ck1 (.map (h4).length)).bind fun _ =>
 (some (h5 ++ [O.cells 0 [x3, (.map (h4).length)]]) : Option H).bind fun h6 =>
 ((rd h6 (.ptr (h5).length 0 0) 0)).bind fun x7 =>
 (slen x7).bind fun n8 =>
 (L349_0 N N ((.ptr (h5).length 0 0), x7, n8, 0, h6)).bind fun (x27, h28) =>
 some (x27, h28)))
abbrev ks349 : List SK := [.one .ref]
abbrev rs349 : List SK := [.one .ref]
def e349 (N : Nat) : Env := ⟨Tryz.prog, 39, inTab [5], inTab [], natTab [(5, 5), (27, 5), (34, 5)], inTab [], calTab [(286, .ro (mkFun ks286 rs286 (F286 N))), (418, .full (mkFun ks418 rs418 (F418 N)))], altTab [], loopTab [(5, ⟨⟨.normal, [3, 20, 21, 22], [.one .ref, .one .ref, .one (.int .i64), .one (.int .i64)], [], []⟩, [⟨(.exit 0), [3], [.one .ref], [], []⟩], L349_0 N⟩)], natTab [], inTab [2, 8]⟩
theorem l349_0 (N : Nat) : ∀ A, (e349 N).lp (lid (loopAt Tryz.f349 0)) = some A → LoopOk (e349 N) N (loopAt Tryz.f349 0) A :=
  loopOk_of (A := ⟨⟨.normal, [3, 20, 21, 22], [.one .ref, .one .ref, .one (.int .i64), .one (.int .i64)], [], []⟩, [⟨(.exit 0), [3], [.one .ref], [], []⟩], L349_0 N⟩) (by kernel_rfl) (fun _ => rfl) (fun _ _ => by kernel_rfl)
theorem fine349 (N : Nat) : Fine (e349 N) N 349 Tryz.f349 ks349 rs349 (F349 N) :=
  ⟨Tryz.func349, by kernel_rfl, by kernel_rfl, by kernel_rfl, loops_of ⟨l349_0 N, trivial⟩, by kernel_rfl, by kernel_rfl, fun _ => by kernel_rfl⟩
theorem good349 (N : Nat) : Go.L.Good (e349 N) := good_of ⟨gd286 N, ⟨gd418 N, trivial⟩⟩
theorem gd349 (N : Nat) : CalOk Tryz.prog 349 (.full (mkFun ks349 rs349 (F349 N))) := mkFun_good (fine349 N) (good349 N)

/-! ### 373: table.Table).pid -/
def F373 (N : Nat) : V × Int × H → Option (Int × Int × H)
 | (a0, a1, h) =>
 (nck a0).bind fun _ =>
 ((rd h (padd a0 0) 0)).bind fun x1 =>
 (sidx x1 a1 3).bind fun q2 =>
 (L.asInt .i64 (rd h (padd q2 0) 0)).bind fun x3 =>
 some (a1, x3, h)
abbrev ks373 : List SK := [.one .ref, .one (.int .i64)]
abbrev rs373 : List SK := [.agg [(.int .i64), (.int .i64)]]
def e373 (N : Nat) : Env := ⟨Tryz.prog, 15, inTab [4], inTab [], natTab [(4, 4)], inTab [], calTab [], altTab [], loopTab [], natTab [], inTab []⟩
theorem fine373 (N : Nat) : Fine (e373 N) N 373 Tryz.f373 ks373 rs373 (F373 N) :=
  ⟨Tryz.func373, by kernel_rfl, by kernel_rfl, by kernel_rfl, loops_of trivial, by kernel_rfl, by kernel_rfl, fun _ => by kernel_rfl⟩
theorem good373 (N : Nat) : Go.L.Good (e373 N) := good_of trivial
theorem gd373 (N : Nat) : CalOk Tryz.prog 373 (.ro (mkFun ks373 rs373 (F373 N))) := mkFun_ro (fine373 N) (good373 N) (by kernel_rfl)

/-! ### 350: table.Table).Add -/
def L350_0 (N : Nat) : Nat → V × Int × Int × Int × Int × H → Option ((H) ⊕ (Int × Int × Int × H))
 | 0, _ => none
 | n + 1, (x21, x22, x23, x24, x25, h26) =>
 (if (decide (x23 < x22)) = true then (
 (nck x21).bind fun _ =>
 ((rd h26 (padd x21 0) 0)).bind fun x27 =>
 (sidx x27 x23 3).bind fun q28 =>
 (L.asBool (rd h26 (padd q28 1) 0)).bind fun x29 =>
 (if (!x29) = true then (
 (L.asInt .i64 (rd h26 (padd q28 0) 0)).bind fun x32 =>
 some ((decide (x32 < 4611686018427387903)), h26))
 else (
 some (false, h26))).bind fun (b30, h31) =>
 (if b30 = true then (
 (wr h31 (padd q28 1) [(.bool true)]).bind fun h33 =>
 (L.asInt .i64 (rd h33 (padd q28 0) 0)).bind fun x34 =>
 (wr h33 (padd q28 0) [(.int .i64 (IntKind.i64.wrap (x34 + 1)))]).bind fun h35 =>
 (F373 N (x21, x23, h35)).bind fun (x36, x37, _) =>
 some (.inr (0, x36, x37, h35)))
 else (
 L350_0 N n (x21, x22, (IntKind.i64.wrap (x23 + 1)), x24, x25, h31))))
 else (
 some (.inl h26)))
def F350 (N : Nat) : V × H → Option (Int × Int × Int × H)
 | (a0, h) =>
 (F286 N (a0, h)).bind fun (x1, _) =>
 (if (!x1) = true then (
 none)
 else (
 (nck a0).bind fun _ =>
 ((rd h (padd a0 0) 0)).bind fun x2 =>
 (slen x2).bind fun n3 =>
 (L350_0 N N (a0, n3, 0, 0, 0, h)).bind fun o38 => match o38 with
 | .inl h39 => (
 none)
 | .inr (x40, x41, x42, h43) => (
 some (x41, x42, x40, h43))))
abbrev ks350 : List SK := [.one .ref]
abbrev rs350 : List SK := [.agg [(.int .i64), (.int .i64)], .one (.int .i64)]
def e350 (N : Nat) : Env := ⟨Tryz.prog, 51, inTab [2], inTab [], natTab [(2, 2)], inTab [], calTab [(286, .ro (mkFun ks286 rs286 (F286 N))), (373, .ro (mkFun ks373 rs373 (F373 N)))], altTab [], loopTab [(4, ⟨⟨.normal, [0, 2, 14, 15], [.one .ref, .lp 2 0, .one (.int .i64), .one (.int .i64)], [2], [.cells [(.int .i64), (.int .i64)]]⟩, [⟨(.exit 0), [], [], [], []⟩, ⟨.ret, [2, 3], [.lp 2 0, .one (.int .i64)], [2], [.cells [(.int .i64), (.int .i64)]]⟩], L350_0 N⟩)], natTab [], inTab [2, 12]⟩
theorem l350_0 (N : Nat) : ∀ A, (e350 N).lp (lid (loopAt Tryz.f350 0)) = some A → LoopOk (e350 N) N (loopAt Tryz.f350 0) A :=
  loopOk_of (A := ⟨⟨.normal, [0, 2, 14, 15], [.one .ref, .lp 2 0, .one (.int .i64), .one (.int .i64)], [2], [.cells [(.int .i64), (.int .i64)]]⟩, [⟨(.exit 0), [], [], [], []⟩, ⟨.ret, [2, 3], [.lp 2 0, .one (.int .i64)], [2], [.cells [(.int .i64), (.int .i64)]]⟩], L350_0 N⟩) (by kernel_rfl) (fun _ => rfl) (fun _ _ => by kernel_rfl)
theorem fine350 (N : Nat) : Fine (e350 N) N 350 Tryz.f350 ks350 rs350 (F350 N) :=
  ⟨Tryz.func350, by kernel_rfl, by kernel_rfl, by kernel_rfl, loops_of ⟨l350_0 N, trivial⟩, by kernel_rfl, by kernel_rfl, fun _ => by kernel_rfl⟩
theorem good350 (N : Nat) : Go.L.Good (e350 N) := good_of ⟨gd286 N, ⟨gd373 N, trivial⟩⟩
theorem gd350 (N : Nat) : CalOk Tryz.prog 350 (.full (mkFun ks350 rs350 (F350 N))) := mkFun_good (fine350 N) (good350 N)

/-! ### 419: homes.Accounts).has -/
def F419 (N : Nat) : V × Int × Int × H → Option (Bool × H)
 | (a0, a1, a2, h) =>
 (isNil a0).bind fun b1 =>
 (if (!b1) = true then (
 some ((decide (a1 ≥ 0)), h))
 else (
 some (false, h))).bind fun (b2, h3) =>
 (if b2 = true then (
 (nck a0).bind fun _ =>
 (L.asInt .i64 (rd h3 (padd a0 0) 0)).bind fun x6 =>
 some ((decide (a1 < x6)), h3))
 else (
 some (false, h3))).bind fun (b4, h5) =>
 (if b4 = true then (
 some ((decide (a2 ≥ 0)), h5))
 else (
 some (false, h5))).bind fun (b7, h8) =>
 (if b7 = true then (
 some ((decide (a2 < 3)), h8))
 else (
 some (false, h8))).bind fun (b9, h10) =>
 some (b9, h10)
abbrev ks419 : List SK := [.one .ref, .one (.int .i64), .one (.int .i64)]
abbrev rs419 : List SK := [.one .bool]
def e419 (N : Nat) : Env := ⟨Tryz.prog, 29, inTab [], inTab [], natTab [], inTab [], calTab [], altTab [], loopTab [], natTab [], inTab []⟩
theorem fine419 (N : Nat) : Fine (e419 N) N 419 Tryz.f419 ks419 rs419 (F419 N) :=
  ⟨Tryz.func419, by kernel_rfl, by kernel_rfl, by kernel_rfl, loops_of trivial, by kernel_rfl, by kernel_rfl, fun _ => by kernel_rfl⟩
theorem good419 (N : Nat) : Go.L.Good (e419 N) := good_of trivial
theorem gd419 (N : Nat) : CalOk Tryz.prog 419 (.ro (mkFun ks419 rs419 (F419 N))) := mkFun_ro (fine419 N) (good419 N) (by kernel_rfl)

/-! ### 351: homes.Accounts).Take -/
def F351 (N : Nat) : V × Int × Int × H → Option (Int × H)
 | (a0, a1, a2, h) =>
 (F419 N (a0, a1, a2, h)).bind fun (x1, _) =>
 (if (!x1) = true then (
 none)
 else (
 (nck a0).bind fun _ =>
 (aidx (padd a0 1) a1 16 3).bind fun q2 =>
 (aidx q2 a2 3 1).bind fun q3 =>
 (L.asInt .i64 (rd h q3 0)).bind fun x4 =>
 (if (decide (x4 ≥ 64)) = true then (
 none)
 else (
 (nck a0).bind fun _ =>
 (aidx (padd a0 1) a1 16 3).bind fun q5 =>
 (aidx q5 a2 3 1).bind fun q6 =>
 (L.asInt .i64 (rd h q6 0)).bind fun x7 =>
 (nck a0).bind fun _ =>
 (aidx (padd a0 1) a1 16 3).bind fun q8 =>
 (aidx q8 a2 3 1).bind fun q9 =>
 (wr h q9 [(.int .i64 (IntKind.i64.wrap (x7 + 1)))]).bind fun h10 =>
 some (0, h10)))))
abbrev ks351 : List SK := [.one .ref, .one (.int .i64), .one (.int .i64)]
abbrev rs351 : List SK := [.one (.int .i64)]
def e351 (N : Nat) : Env := ⟨Tryz.prog, 34, inTab [], inTab [], natTab [], inTab [], calTab [(419, .ro (mkFun ks419 rs419 (F419 N)))], altTab [], loopTab [], natTab [], inTab [2, 4]⟩
theorem fine351 (N : Nat) : Fine (e351 N) N 351 Tryz.f351 ks351 rs351 (F351 N) :=
  ⟨Tryz.func351, by kernel_rfl, by kernel_rfl, by kernel_rfl, loops_of trivial, by kernel_rfl, by kernel_rfl, fun _ => by kernel_rfl⟩
theorem good351 (N : Nat) : Go.L.Good (e351 N) := good_of ⟨gd419 N, trivial⟩
theorem gd351 (N : Nat) : CalOk Tryz.prog 351 (.full (mkFun ks351 rs351 (F351 N))) := mkFun_good (fine351 N) (good351 N)

/-! ### 352: box.New -/
def F352 (N : Nat) : H → Option (V × H)
 | h =>
 (some (h ++ [O.cells 0 [(.bool true), .nils, .nils, (.int .i64 0), (.int .i64 0)]]) : Option H).bind fun h1 =>
 some ((.ptr (h).length 0 0), h1)
abbrev ks352 : List SK := []
abbrev rs352 : List SK := [.one .ref]
def e352 (N : Nat) : Env := ⟨Tryz.prog, 3, inTab [], inTab [], natTab [], inTab [], calTab [], altTab [], loopTab [], natTab [], inTab []⟩
theorem fine352 (N : Nat) : Fine (e352 N) N 352 Tryz.f352 ks352 rs352 (F352 N) :=
  ⟨Tryz.func352, by kernel_rfl, by kernel_rfl, by kernel_rfl, loops_of trivial, by kernel_rfl, by kernel_rfl, fun _ => by kernel_rfl⟩
theorem good352 (N : Nat) : Go.L.Good (e352 N) := good_of trivial
theorem gdg352 (N : Nat) : CalOk Tryz.prog 352 (.gro (mkFun ks352 rs352 (F352 N))) := mkFun_groC (fine352 N) (good352 N) (by kernel_rfl)

/-! ### 291: core.Core).given -/
def F291 (N : Nat) : V × H → Option (Bool × H)
 | (a0, h) =>
 (isNil a0).bind fun b1 =>
 (if (!b1) = true then (
 (nck a0).bind fun _ =>
 ((rd h (padd a0 0) 0)).bind fun x4 =>
 (slen x4).bind fun n5 =>
 some ((decide (n5 > 0)), h))
 else (
 some (false, h))).bind fun (b2, h3) =>
 some (b2, h3)
abbrev ks291 : List SK := [.one .ref]
abbrev rs291 : List SK := [.one .bool]
def e291 (N : Nat) : Env := ⟨Tryz.prog, 13, inTab [], inTab [], natTab [], inTab [], calTab [], altTab [], loopTab [], natTab [], inTab []⟩
theorem fine291 (N : Nat) : Fine (e291 N) N 291 Tryz.f291 ks291 rs291 (F291 N) :=
  ⟨Tryz.func291, by kernel_rfl, by kernel_rfl, by kernel_rfl, loops_of trivial, by kernel_rfl, by kernel_rfl, fun _ => by kernel_rfl⟩
theorem good291 (N : Nat) : Go.L.Good (e291 N) := good_of trivial
theorem gd291 (N : Nat) : CalOk Tryz.prog 291 (.ro (mkFun ks291 rs291 (F291 N))) := mkFun_ro (fine291 N) (good291 N) (by kernel_rfl)

/-! ### 292: core.class -/
def F292 (N : Nat) : Int × H → Option (Bool × H)
 | (a0, h) =>
 (if (decide (a0 ≥ 0)) = true then (
 some ((decide (a0 < 3)), h))
 else (
 some (false, h))).bind fun (b1, h2) =>
 some (b1, h2)
abbrev ks292 : List SK := [.one (.int .i64)]
abbrev rs292 : List SK := [.one .bool]
def e292 (N : Nat) : Env := ⟨Tryz.prog, 9, inTab [], inTab [], natTab [], inTab [], calTab [], altTab [], loopTab [], natTab [], inTab []⟩
theorem fine292 (N : Nat) : Fine (e292 N) N 292 Tryz.f292 ks292 rs292 (F292 N) :=
  ⟨Tryz.func292, by kernel_rfl, by kernel_rfl, by kernel_rfl, loops_of trivial, by kernel_rfl, by kernel_rfl, fun _ => by kernel_rfl⟩
theorem good292 (N : Nat) : Go.L.Good (e292 N) := good_of trivial
theorem gd292 : CalOk Tryz.prog 292 (.pure (mkP ks292 rs292 (F292 100))) := mkP_good (fine292 100) (good292 100) (by kernel_rfl) (by kernel_rfl)

/-! ### 376: api.Entry] -/
def F376 (N : Nat) : V × H → Option (V × H)
 | (a0, h) =>
 (slen a0).bind fun n1 =>
 (if 0 ≤ n1 then (if n1 ≤ n1 then (if n1 * ((3 : Nat) : Int) ≤ ((mostCells : Nat) : Int) then (
 (some (h ++ [O.cells 0 (repeatC (Int.toNat n1) [(.int .i64 0), (.int .i64 0), (.bool false)])]) : Option H).bind fun h2 =>
 (scells h2 a0 3).bind fun cs4 =>
 (if snlen a0 ≤ snlen (.sl (h).length 0 0 (Int.toNat n1) 3 (some (Int.toNat n1))) then (
 (hwrAll h2 (.sl (h).length 0 0 (Int.toNat n1) 3 (some (Int.toNat n1))) 3 cs4).bind fun h3 =>
 (slen a0).bind fun n5 =>
 (slen a0).bind fun n6 =>
 (slen (.sl (h).length 0 0 (Int.toNat n1) 3 (some (Int.toNat n1)))).bind fun n7 =>
 (ssl3 3 (.sl (h).length 0 0 (Int.toNat n1) 3 (some (Int.toNat n1))) 0 n5 n6).bind fun v8 =>
 some (v8, h3)) else none)) else none) else none) else none)
abbrev ks376 : List SK := [.one .ref]
abbrev rs376 : List SK := [.one .ref]
def e376 (N : Nat) : Env := ⟨Tryz.prog, 16, inTab [], inTab [], natTab [], inTab [], calTab [], altTab [], loopTab [], natTab [], inTab []⟩
theorem fine376 (N : Nat) : Fine (e376 N) N 376 Tryz.f376 ks376 rs376 (F376 N) :=
  ⟨Tryz.func376, by kernel_rfl, by kernel_rfl, by kernel_rfl, loops_of trivial, by kernel_rfl, by kernel_rfl, fun _ => by kernel_rfl⟩
theorem good376 (N : Nat) : Go.L.Good (e376 N) := good_of trivial
theorem gd376 (N : Nat) : CalOk Tryz.prog 376 (.full (mkFun ks376 rs376 (F376 N))) := mkFun_good (fine376 N) (good376 N)

/-! ### 293: api.Entry]).Items -/
def F293 (N : Nat) : V × H → Option (V × H)
 | (a0, h) =>
 (F375 N (a0, h)).bind fun (x1, _) =>
 (if (!x1) = true then (
 none)
 else (
 (nck a0).bind fun _ =>
 ((rd h (padd a0 1) 0)).bind fun x2 =>
 (F376 N (x2, h)).bind fun (x3, h4) =>
 some (x3, h4)))
abbrev ks293 : List SK := [.one .ref]
abbrev rs293 : List SK := [.one .ref]
def e293 (N : Nat) : Env := ⟨Tryz.prog, 11, inTab [], inTab [], natTab [], inTab [], calTab [(375, .ro (mkFun ks375 rs375 (F375 N))), (376, .full (mkFun ks376 rs376 (F376 N)))], altTab [], loopTab [], natTab [], inTab [2]⟩
theorem fine293 (N : Nat) : Fine (e293 N) N 293 Tryz.f293 ks293 rs293 (F293 N) :=
  ⟨Tryz.func293, by kernel_rfl, by kernel_rfl, by kernel_rfl, loops_of trivial, by kernel_rfl, by kernel_rfl, fun _ => by kernel_rfl⟩
theorem good293 (N : Nat) : Go.L.Good (e293 N) := good_of ⟨gd375 N, ⟨gd376 N, trivial⟩⟩
theorem gd293 (N : Nat) : CalOk Tryz.prog 293 (.full (mkFun ks293 rs293 (F293 N))) := mkFun_good (fine293 N) (good293 N)

/-! ### 445: core.Core).Find$1 -/
def F445 (N : Nat) : Int × Int × Bool × V × H → Option (Bool × H)
 | (a0_0, a0_1, a0_2, a1, h) =>
 (L.asInt .i64 (rd h a1 0)).bind fun x1 =>
 (L.asInt .i64 (rd h a1 1)).bind fun x2 =>
 some (((a0_0 == x1) && ((a0_1 == x2) && true)), h)
abbrev ks445 : List SK := [.agg [(.int .i64), (.int .i64), .bool], .one .ref]
abbrev rs445 : List SK := [.one .bool]
def e445 (N : Nat) : Env := ⟨Tryz.prog, 8, inTab [2], inTab [], natTab [(2, 2), (4, 2)], inTab [], calTab [], altTab [], loopTab [], natTab [], inTab []⟩
theorem fine445 (N : Nat) : Fine (e445 N) N 445 Tryz.f445 ks445 rs445 (F445 N) :=
  ⟨Tryz.func445, by kernel_rfl, by kernel_rfl, by kernel_rfl, loops_of trivial, by kernel_rfl, by kernel_rfl, fun _ => by kernel_rfl⟩
theorem good445 (N : Nat) : Go.L.Good (e445 N) := good_of trivial
theorem gd445 (N : Nat) : CalOk Tryz.prog 445 (.ro (mkFun ks445 rs445 (F445 N))) := mkFun_ro (fine445 N) (good445 N) (by kernel_rfl)

/-! ### 444: api.Entry] -/
abbrev rs444_16 : List SK := [.one .bool]
def D444_16 (N : Nat) : List (Nat × (List V → H → Option (Tup rs444_16 H))) := [(445, (mkFun ks445 rs445 (F445 N)).F)]
theorem dg444_16 (N : Nat) : CalOk Tryz.prog 16777232 (.dyn (dynF rs444_16 (D444_16 N))) := dyn_good ⟨mkFun_good (fine445 N) (good445 N), trivial⟩
def L444_0 (N : Nat) : Nat → V × V × Int × Int × H → Option (H)
 | 0, _ => none
 | n + 1, (x13, x14, x15, x16, h17) =>
 (if (decide (x16 < x15)) = true then (
 (sidx x13 x16 3).bind fun q18 =>
 (L.asInt .i64 (rd h17 q18 0)).bind fun x19 =>
 (L.asInt .i64 (rd h17 q18 1)).bind fun x20 =>
 (L.asBool (rd h17 q18 2)).bind fun x21 =>
 Option.bind (α := Bool × H) (dynC rs444_16 (D444_16 N) x14 [(.agg [(.int .i64 x19), (.int .i64 x20), (.bool x21)])] h17) fun (x22, h23) =>
 (if x22 = true then (
 none)
 else (
 L444_0 N n (x13, x14, x15, (IntKind.i64.wrap (x16 + 1)), h23))))
 else (
 some h17))
def F444 (N : Nat) : V × V × H → Option (Int × H)
 | (a0, a1, h) =>
 (slen a0).bind fun n1 =>
 (L444_0 N N (a0, a1, n1, 0, h)).bind fun h24 =>
 some ((-1), h24)
abbrev ks444 : List SK := [.one .ref, .one .ref]
abbrev rs444 : List SK := [.one (.int .i64)]
def e444 (N : Nat) : Env := ⟨Tryz.prog, 19, inTab [], inTab [], natTab [], inTab [], calTab [(16777232, .dyn (dynF rs444_16 (D444_16 N)))], altTab [], loopTab [(2, ⟨⟨.normal, [0, 1, 7, 8], [.one .ref, .one .ref, .one (.int .i64), .one (.int .i64)], [], []⟩, [⟨(.exit 0), [], [], [], []⟩], L444_0 N⟩)], natTab [], inTab [5]⟩
theorem l444_0 (N : Nat) : ∀ A, (e444 N).lp (lid (loopAt Tryz.f444 0)) = some A → LoopOk (e444 N) N (loopAt Tryz.f444 0) A :=
  loopOk_of (A := ⟨⟨.normal, [0, 1, 7, 8], [.one .ref, .one .ref, .one (.int .i64), .one (.int .i64)], [], []⟩, [⟨(.exit 0), [], [], [], []⟩], L444_0 N⟩) (by kernel_rfl) (fun _ => rfl) (fun _ _ => by kernel_rfl)
theorem fine444 (N : Nat) : Fine (e444 N) N 444 Tryz.f444 ks444 rs444 (F444 N) :=
  ⟨Tryz.func444, by kernel_rfl, by kernel_rfl, by kernel_rfl, loops_of ⟨l444_0 N, trivial⟩, by kernel_rfl, by kernel_rfl, fun _ => by kernel_rfl⟩
theorem good444 (N : Nat) : Go.L.Good (e444 N) := good_of ⟨dg444_16 N, trivial⟩
theorem gd444 (N : Nat) : CalOk Tryz.prog 444 (.full (mkFun ks444 rs444 (F444 N))) := mkFun_good (fine444 N) (good444 N)

/-! ### 366: core.Core).Find -/
def L366_0 (N : Nat) : Nat → V × V × Int × H → Option (H)
 | 0, _ => none
 | n + 1, (x13, x14, x15, h16) =>
 (if (decide (x15 < 3)) = true then (
 (nck x13).bind fun _ =>
 (aidx (padd x13 2) x15 3 1).bind fun q17 =>
 ((rd h16 (padd q17 0) 0)).bind fun x18 =>
 (F293 N (x18, h16)).bind fun (x19, h20) =>
 (F444 N (x19, (.fn 445 [x14]), h20)).bind fun (x21, h22) =>
 (if (decide (x21 ≥ 0)) = true then (
 none)
 else (
 L366_0 N n (x13, x14, (IntKind.i64.wrap (x15 + 1)), h22))))
 else (
 some h16))
def F366 (N : Nat) : V × Int × Int × H → Option (Int × Int × Int × H)
 | (a0, a1_0, a1_1, h) =>
 (some (h ++ [O.cells 0 [(.int .i64 a1_0), (.int .i64 a1_1)]]) : Option H).bind fun h1 =>
 (F291 N (a0, h1)).bind fun (x2, _) =>
 (if (!x2) = true then (
 none)
 else (
 (L366_0 N N (a0, (.ptr (h).length 0 0), 0, h1)).bind fun h23 =>
 some (0, 0, 3, h23)))
abbrev ks366 : List SK := [.one .ref, .agg [(.int .i64), (.int .i64)]]
abbrev rs366 : List SK := [.one (.int .i64), .one (.int .i64), .one (.int .i64)]
def e366 (N : Nat) : Env := ⟨Tryz.prog, 30, inTab [], inTab [], natTab [], inTab [], calTab [(291, .ro (mkFun ks291 rs291 (F291 N))), (293, .full (mkFun ks293 rs293 (F293 N))), (444, .full (mkFun ks444 rs444 (F444 N)))], altTab [], loopTab [(4, ⟨⟨.normal, [0, 3, 12], [.one .ref, .one .ref, .one (.int .i64)], [], []⟩, [⟨(.exit 0), [], [], [], []⟩], L366_0 N⟩)], natTab [], inTab [2, 8]⟩
theorem l366_0 (N : Nat) : ∀ A, (e366 N).lp (lid (loopAt Tryz.f366 0)) = some A → LoopOk (e366 N) N (loopAt Tryz.f366 0) A :=
  loopOk_of (A := ⟨⟨.normal, [0, 3, 12], [.one .ref, .one .ref, .one (.int .i64)], [], []⟩, [⟨(.exit 0), [], [], [], []⟩], L366_0 N⟩) (by kernel_rfl) (fun _ => rfl) (fun _ _ => by kernel_rfl)
theorem fine366 (N : Nat) : Fine (e366 N) N 366 Tryz.f366 ks366 rs366 (F366 N) :=
  ⟨Tryz.func366, by kernel_rfl, by kernel_rfl, by kernel_rfl, loops_of ⟨l366_0 N, trivial⟩, by kernel_rfl, by kernel_rfl, fun _ => by kernel_rfl⟩
theorem good366 (N : Nat) : Go.L.Good (e366 N) := good_of ⟨gd291 N, ⟨gd293 N, ⟨gd444 N, trivial⟩⟩⟩
theorem gd366 (N : Nat) : CalOk Tryz.prog 366 (.full (mkFun ks366 rs366 (F366 N))) := mkFun_good (fine366 N) (good366 N)

/-! ### 448: core.Core).stands -/
def F448 (N : Nat) : V × Int × Int × H → Option (Bool × H)
 | (a0, a1_0, a1_1, h) =>
 (F366 N (a0, a1_0, a1_1, h)).bind fun (x1, x2, x3, h4) =>
 some ((x3 == 0), h4)
abbrev ks448 : List SK := [.one .ref, .agg [(.int .i64), (.int .i64)]]
abbrev rs448 : List SK := [.one .bool]
def e448 (N : Nat) : Env := ⟨Tryz.prog, 17, inTab [3], inTab [], natTab [(3, 3)], inTab [], calTab [(366, .full (mkFun ks366 rs366 (F366 N)))], altTab [], loopTab [], natTab [], inTab []⟩
theorem fine448 (N : Nat) : Fine (e448 N) N 448 Tryz.f448 ks448 rs448 (F448 N) :=
  ⟨Tryz.func448, by kernel_rfl, by kernel_rfl, by kernel_rfl, loops_of trivial, by kernel_rfl, by kernel_rfl, fun _ => by kernel_rfl⟩
theorem good448 (N : Nat) : Go.L.Good (e448 N) := good_of ⟨gd366 N, trivial⟩
theorem gd448 (N : Nat) : CalOk Tryz.prog 448 (.full (mkFun ks448 rs448 (F448 N))) := mkFun_good (fine448 N) (good448 N)

/-! ### 449: api.Entry]).Push -/
def F449 (N : Nat) : V × Int × Int × Bool × H → Option (Int × H)
 | (a0, a1_0, a1_1, a1_2, h) =>
 (some (h ++ [O.cells 0 [(.int .i64 a1_0), (.int .i64 a1_1), (.bool a1_2)]]) : Option H).bind fun h1 =>
 (F345 N (a0, (.sl (h).length 0 0 1 3 (some 1)), h1)).bind fun (x2, h3) =>
 some (x2, h3)
abbrev ks449 : List SK := [.one .ref, .agg [(.int .i64), (.int .i64), .bool]]
abbrev rs449 : List SK := [.one (.int .i64)]
def e449 (N : Nat) : Env := ⟨Tryz.prog, 9, inTab [3], inTab [], natTab [(3, 3)], inTab [], calTab [(345, .full (mkFun ks345 rs345 (F345 N)))], altTab [], loopTab [], natTab [], inTab []⟩
theorem fine449 (N : Nat) : Fine (e449 N) N 449 Tryz.f449 ks449 rs449 (F449 N) :=
  ⟨Tryz.func449, by kernel_rfl, by kernel_rfl, by kernel_rfl, loops_of trivial, by kernel_rfl, by kernel_rfl, fun _ => by kernel_rfl⟩
theorem good449 (N : Nat) : Go.L.Good (e449 N) := good_of ⟨gd345 N, trivial⟩
theorem gd449 (N : Nat) : CalOk Tryz.prog 449 (.full (mkFun ks449 rs449 (F449 N))) := mkFun_good (fine449 N) (good449 N)

/-! ### 368: core.Core).Push -/
def F368 (N : Nat) : V × Int × Int × Int × H → Option (Int × H)
 | (a0, a1, a2_0, a2_1, h) =>
 (F291 N (a0, h)).bind fun (x1, _) =>
 (if (!x1) = true then (
 some (true, h))
 else (
 (F292 100 (a1, [])).bind fun (x4, _) =>
 some ((!x4), h))).bind fun (b2, h3) =>
 (if b2 = true then (
 some (true, h3))
 else (
 (F448 N (a0, a2_0, a2_1, h3)).bind fun (x7, h8) =>
 some (x7, h8))).bind fun (b5, h6) =>
 (if b5 = true then (
 none)
 else (
 (nck a0).bind fun _ =>
 (aidx (padd a0 2) a1 3 1).bind fun q9 =>
 ((rd h6 (padd q9 0) 0)).bind fun x10 =>
 (F449 N (x10, a2_0, a2_1, false, h6)).bind fun (x11, h12) =>
 some (x11, h12)))
abbrev ks368 : List SK := [.one .ref, .one (.int .i64), .agg [(.int .i64), (.int .i64)]]
abbrev rs368 : List SK := [.one (.int .i64)]
def e368 (N : Nat) : Env := ⟨Tryz.prog, 30, inTab [5], inTab [], natTab [(5, 5)], inTab [], calTab [(291, .ro (mkFun ks291 rs291 (F291 N))), (292, .pure (mkP ks292 rs292 (F292 100))), (448, .full (mkFun ks448 rs448 (F448 N))), (449, .full (mkFun ks449 rs449 (F449 N)))], altTab [], loopTab [], natTab [], inTab [2]⟩
theorem fine368 (N : Nat) : Fine (e368 N) N 368 Tryz.f368 ks368 rs368 (F368 N) :=
  ⟨Tryz.func368, by kernel_rfl, by kernel_rfl, by kernel_rfl, loops_of trivial, by kernel_rfl, by kernel_rfl, fun _ => by kernel_rfl⟩
theorem good368 (N : Nat) : Go.L.Good (e368 N) := good_of ⟨gd291 N, ⟨gd292, ⟨gd448 N, ⟨gd449 N, trivial⟩⟩⟩⟩
theorem gd368 (N : Nat) : CalOk Tryz.prog 368 (.full (mkFun ks368 rs368 (F368 N))) := mkFun_good (fine368 N) (good368 N)

/-! ### 276: node.Node).ready -/
def F276 (N : Nat) : V × V × H → Option (H)
 | (a0, a1, h) =>
 (nck a0).bind fun _ =>
 ((rd h (padd a0 5) 0)).bind fun x1 =>
 (nck a1).bind fun _ =>
 (L.asInt .i64 (rd h (padd a1 3) 0)).bind fun x2 =>
 (sidx x1 x2 4).bind fun q3 =>
 ((rd h (padd q3 0) 0)).bind fun x4 =>
 (nck a1).bind fun _ =>
 (L.asInt .i64 (rd h (padd a1 2) 0)).bind fun x5 =>
 (nck a1).bind fun _ =>
 (L.asInt .i64 (rd h (padd a1 0) 0)).bind fun x6 =>
 (L.asInt .i64 (rd h (padd a1 0) 1)).bind fun x7 =>
 (F368 N (x4, x5, x6, x7, h)).bind fun (x8, h9) =>
 (nck a1).bind fun _ =>
 (wr h9 (padd a1 7) [(.int .i64 1)]).bind fun h10 =>
 some h10
abbrev ks276 : List SK := [.one .ref, .one .ref]
abbrev rs276 : List SK := []
def e276 (N : Nat) : Env := ⟨Tryz.prog, 27, inTab [], inTab [], natTab [], inTab [], calTab [(368, .full (mkFun ks368 rs368 (F368 N)))], altTab [], loopTab [], natTab [], inTab []⟩
theorem fine276 (N : Nat) : Fine (e276 N) N 276 Tryz.f276 ks276 rs276 (F276 N) :=
  ⟨Tryz.func276, by kernel_rfl, by kernel_rfl, by kernel_rfl, loops_of trivial, by kernel_rfl, by kernel_rfl, fun _ => by kernel_rfl⟩
theorem good276 (N : Nat) : Go.L.Good (e276 N) := good_of ⟨gd368 N, trivial⟩
theorem gd276 (N : Nat) : CalOk Tryz.prog 276 (.full (mkFun ks276 rs276 (F276 N))) := mkFun_good (fine276 N) (good276 N)

/-! ### 420: log.Log).given -/
def F420 (N : Nat) : V × H → Option (Bool × H)
 | (a0, h) =>
 (isNil a0).bind fun b1 =>
 (if (!b1) = true then (
 (nck a0).bind fun _ =>
 (L.asInt .i64 (rd h (padd a0 0) 0)).bind fun x4 =>
 some ((decide (x4 > 0)), h))
 else (
 some (false, h))).bind fun (b2, h3) =>
 some (b2, h3)
abbrev ks420 : List SK := [.one .ref]
abbrev rs420 : List SK := [.one .bool]
def e420 (N : Nat) : Env := ⟨Tryz.prog, 12, inTab [], inTab [], natTab [], inTab [], calTab [], altTab [], loopTab [], natTab [], inTab []⟩
theorem fine420 (N : Nat) : Fine (e420 N) N 420 Tryz.f420 ks420 rs420 (F420 N) :=
  ⟨Tryz.func420, by kernel_rfl, by kernel_rfl, by kernel_rfl, loops_of trivial, by kernel_rfl, by kernel_rfl, fun _ => by kernel_rfl⟩
theorem good420 (N : Nat) : Go.L.Good (e420 N) := good_of trivial
theorem gd420 (N : Nat) : CalOk Tryz.prog 420 (.ro (mkFun ks420 rs420 (F420 N))) := mkFun_ro (fine420 N) (good420 N) (by kernel_rfl)

/-! ### 421: log.kind -/
def F421 (N : Nat) : Int × H → Option (Bool × H)
 | (a0, h) =>
 (if (decide (a0 ≥ 1)) = true then (
 some ((decide (a0 ≤ 10)), h))
 else (
 some (false, h))).bind fun (b1, h2) =>
 some (b1, h2)
abbrev ks421 : List SK := [.one (.int .i64)]
abbrev rs421 : List SK := [.one .bool]
def e421 (N : Nat) : Env := ⟨Tryz.prog, 9, inTab [], inTab [], natTab [], inTab [], calTab [], altTab [], loopTab [], natTab [], inTab []⟩
theorem fine421 (N : Nat) : Fine (e421 N) N 421 Tryz.f421 ks421 rs421 (F421 N) :=
  ⟨Tryz.func421, by kernel_rfl, by kernel_rfl, by kernel_rfl, loops_of trivial, by kernel_rfl, by kernel_rfl, fun _ => by kernel_rfl⟩
theorem good421 (N : Nat) : Go.L.Good (e421 N) := good_of trivial
theorem gd421 : CalOk Tryz.prog 421 (.pure (mkP ks421 rs421 (F421 100))) := mkP_good (fine421 100) (good421 100) (by kernel_rfl) (by kernel_rfl)

/-! ### 353: log.Log).Add -/
def F353 (N : Nat) : V × Int × Int × Int × Int × Int × Int × H → Option (Int × H)
 | (a0, a1_0, a1_1, a1_2, a1_3, a1_4, a1_5, h) =>
 (F420 N (a0, h)).bind fun (x1, _) =>
 (if (!x1) = true then (
 some (true, h))
 else (
 (F421 100 (a1_0, [])).bind fun (x4, _) =>
 some ((!x4), h))).bind fun (b2, h3) =>
 (if b2 = true then (
 some (true, h3))
 else (
 some ((decide (a1_4 < 0)), h3))).bind fun (b5, h6) =>
 (if b5 = true then (
 some (true, h6))
 else (
 some ((decide (a1_4 > 4611686018427387903)), h6))).bind fun (b7, h8) =>
 (if b7 = true then (
 some (true, h8))
 else (
 some ((decide (a1_5 < 0)), h8))).bind fun (b9, h10) =>
 (if b9 = true then (
 some (true, h10))
 else (
 some ((decide (a1_5 > 4611686018427387903)), h10))).bind fun (b11, h12) =>
 (if b11 = true then (
 none)
 else (
 (nck a0).bind fun _ =>
 (aidx (padd a0 3) a1_0 11 1).bind fun q13 =>
 (L.asInt .i64 (rd h12 q13 0)).bind fun x14 =>
 (nck a0).bind fun _ =>
 (aidx (padd a0 3) a1_0 11 1).bind fun q15 =>
 (wr h12 q15 [(.int .i64 (IntKind.i64.wrap (x14 + 1)))]).bind fun h16 =>
 (nck a0).bind fun _ =>
 (aidx (padd a0 14) a1_0 11 1).bind fun q17 =>
 (L.asInt .i64 (rd h16 q17 0)).bind fun x18 =>
 (nck a0).bind fun _ =>
 (aidx (padd a0 14) a1_0 11 1).bind fun q19 =>
 (wr h16 q19 [(.int .i64 (Int.tmod (IntKind.i64.wrap (x18 + a1_4)) 4611686018427387904))]).bind fun h20 =>
 (nck a0).bind fun _ =>
 (aidx (padd a0 25) a1_0 11 1).bind fun q21 =>
 (L.asInt .i64 (rd h20 q21 0)).bind fun x22 =>
 (nck a0).bind fun _ =>
 (aidx (padd a0 25) a1_0 11 1).bind fun q23 =>
 (wr h20 q23 [(.int .i64 (Int.tmod (IntKind.i64.wrap (x22 + a1_5)) 4611686018427387904))]).bind fun h24 =>
 (nck a0).bind fun _ =>
 ((rd h24 (padd a0 1) 0)).bind fun x25 =>
 (slen x25).bind fun n26 =>
 (nck a0).bind fun _ =>
 (L.asInt .i64 (rd h24 (padd a0 0) 0)).bind fun x27 =>
 (if (decide (n26 < x27)) = true then (
 (nck a0).bind fun _ =>
 ((rd h24 (padd a0 1) 0)).bind fun x28 =>
 (happ h24 x28 6 1 [(.int .i64 a1_0), (.int .i64 a1_1), (.int .i64 a1_2), (.int .i64 a1_3), (.int .i64 a1_4), (.int .i64 a1_5)]).bind fun (v29, h30) =>
 (nck a0).bind fun _ =>
 (ck1 v29).bind fun _ =>
 (wr h30 (padd a0 1) [v29]).bind fun h31 =>
 some (0, h31))
 else (
 none))))
abbrev ks353 : List SK := [.one .ref, .agg [(.int .i64), (.int .i64), (.int .i64), (.int .i64), (.int .i64), (.int .i64)]]
abbrev rs353 : List SK := [.one (.int .i64)]
def e353 (N : Nat) : Env := ⟨Tryz.prog, 122, inTab [3, 95], inTab [], natTab [(3, 3), (9, 3), (15, 3), (20, 3), (25, 3), (30, 3), (35, 3), (46, 3), (49, 3), (55, 3), (63, 3), (66, 3), (72, 3)], inTab [], calTab [(420, .ro (mkFun ks420 rs420 (F420 N))), (421, .pure (mkP ks421 rs421 (F421 100)))], altTab [], loopTab [], natTab [], inTab [2, 9, 10, 11]⟩
theorem fine353 (N : Nat) : Fine (e353 N) N 353 Tryz.f353 ks353 rs353 (F353 N) :=
  ⟨Tryz.func353, by kernel_rfl, by kernel_rfl, by kernel_rfl, loops_of trivial, by kernel_rfl, by kernel_rfl, fun _ => by kernel_rfl⟩
theorem good353 (N : Nat) : Go.L.Good (e353 N) := good_of ⟨gd420 N, ⟨gd421, trivial⟩⟩
theorem gd353 (N : Nat) : CalOk Tryz.prog 353 (.full (mkFun ks353 rs353 (F353 N))) := mkFun_good (fine353 N) (good353 N)

/-! ### 270: node.Node).event -/
def F270 (N : Nat) : V × Int × Int × Int × Int × Int × Int × H → Option (H)
 | (a0, a1, a2, a3_0, a3_1, a4, a5, h) =>
 (nck a0).bind fun _ =>
 ((rd h (padd a0 10) 0)).bind fun x1 =>
 (F353 N (x1, a1, a2, a3_0, a3_1, a4, a5, h)).bind fun (x2, h3) =>
 some h3
abbrev ks270 : List SK := [.one .ref, .one (.int .i64), .one (.int .i64), .agg [(.int .i64), (.int .i64)], .one (.int .i64), .one (.int .i64)]
abbrev rs270 : List SK := []
def e270 (N : Nat) : Env := ⟨Tryz.prog, 23, inTab [9], inTab [], natTab [(9, 9)], inTab [], calTab [(353, .full (mkFun ks353 rs353 (F353 N)))], altTab [], loopTab [], natTab [], inTab []⟩
theorem fine270 (N : Nat) : Fine (e270 N) N 270 Tryz.f270 ks270 rs270 (F270 N) :=
  ⟨Tryz.func270, by kernel_rfl, by kernel_rfl, by kernel_rfl, loops_of trivial, by kernel_rfl, by kernel_rfl, fun _ => by kernel_rfl⟩
theorem good270 (N : Nat) : Go.L.Good (e270 N) := good_of ⟨gd353 N, trivial⟩
theorem gd270 (N : Nat) : CalOk Tryz.prog 270 (.full (mkFun ks270 rs270 (F270 N))) := mkFun_good (fine270 N) (good270 N)

/-! ### 267: node.Node).spawn -/
def F267 (N : Nat) : V × Int × Int × Int × Int × V × H → Option (Int × Int × Int × H)
 | (a0, a1, a2, a3, a4, a5, h) =>
 (nck a0).bind fun _ =>
 ((rd h (padd a0 1) 0)).bind fun x1 =>
 (sidx x1 a3 2).bind fun q2 =>
 (L.asStr (rd h q2 0)).bind fun x3 =>
 ((rd h q2 1)).bind fun x4 =>
 (F33 N (x3, x4, a4, a5, h)).bind fun (x5, x6, h7) =>
 (if (x6 != 0) = true then (
 none)
 else (
 (nck a0).bind fun _ =>
 ((rd h7 (padd a0 2) 0)).bind fun x8 =>
 (F349 N (x8, h7)).bind fun (x9, h10) =>
 (F350 N (x9, h10)).bind fun (x11, x12, x13, h14) =>
 (if (x13 != 0) = true then (
 none)
 else (
 (nck a0).bind fun _ =>
 ((rd h14 (padd a0 3) 0)).bind fun x15 =>
 (F351 N (x15, a1, a2, h14)).bind fun (x16, h17) =>
 (if (x16 != 0) = true then (
 none)
 else (
 (nck a0).bind fun _ =>
 (ck1 x9).bind fun _ =>
 (wr h17 (padd a0 2) [x9]).bind fun h18 =>
 (F352 N h18).bind fun (x19, h20) =>
 (ck1 x5).bind fun _ =>
 (ck1 x19).bind fun _ =>
 (some (h20 ++ [O.cells 0 [(.int .i64 x11), (.int .i64 x12), (.int .i64 a2), (.int .i64 a1), (.int .i64 a3), x5, x19, (.int .i64 0), (.bool false), (.bool false), (.int .i64 0), (.int .i64 (-1))]]) : Option H).bind fun h21 =>
 (nck a0).bind fun _ =>
 ((rd h21 (padd a0 6) 0)).bind fun x22 =>
 (hmapset h21 x22 (.int .i64 x11) (.ptr (h20).length 0 0)).bind fun h23 =>
 (F276 N (a0, (.ptr (h20).length 0 0), h23)).bind fun h24 =>
 (F270 N (a0, 1, a1, x11, x12, a2, a3, h24)).bind fun h25 =>
 some (x11, x12, 0, h25)))))))
abbrev ks267 : List SK := [.one .ref, .one (.int .i64), .one (.int .i64), .one (.int .i64), .one (.int .i64), .one .ref]
abbrev rs267 : List SK := [.agg [(.int .i64), (.int .i64)], .one (.int .i64)]
def e267 (N : Nat) : Env := ⟨Tryz.prog, 91, inTab [12, 17], inTab [], natTab [(12, 12), (17, 17), (78, 17)], inTab [], calTab [(33, .full (mkFun ks33 rs33 (F33 N))), (349, .full (mkFun ks349 rs349 (F349 N))), (350, .full (mkFun ks350 rs350 (F350 N))), (351, .full (mkFun ks351 rs351 (F351 N))), (352, .gro (mkFun ks352 rs352 (F352 N))), (276, .full (mkFun ks276 rs276 (F276 N))), (270, .full (mkFun ks270 rs270 (F270 N)))], altTab [], loopTab [], natTab [], inTab [3, 7, 10]⟩
theorem fine267 (N : Nat) : Fine (e267 N) N 267 Tryz.f267 ks267 rs267 (F267 N) :=
  ⟨Tryz.func267, by kernel_rfl, by kernel_rfl, by kernel_rfl, loops_of trivial, by kernel_rfl, by kernel_rfl, fun _ => by kernel_rfl⟩
theorem good267 (N : Nat) : Go.L.Good (e267 N) := good_of ⟨gd33 N, ⟨gd349 N, ⟨gd350 N, ⟨gd351 N, ⟨gdg352 N, ⟨gd276 N, ⟨gd270 N, trivial⟩⟩⟩⟩⟩⟩⟩
theorem gd267 (N : Nat) : CalOk Tryz.prog 267 (.full (mkFun ks267 rs267 (F267 N))) := mkFun_good (fine267 N) (good267 N)

/-! ### 206: node.Node).Spawn -/
def F206 (N : Nat) : V × Int × Int × Int × Int × V × H → Option (Int × Int × Int × H)
 | (a0, a1, a2, a3, a4, a5, h) =>
 (F263 N (a0, h)).bind fun (x1, _) =>
 (if (x1 != 0) = true then (
 none)
 else (
 (if (decide (a3 < 0)) = true then (
 some (true, h))
 else (
 (nck a0).bind fun _ =>
 ((rd h (padd a0 1) 0)).bind fun x4 =>
 (slen x4).bind fun n5 =>
 some ((decide (a3 ≥ n5)), h))).bind fun (b2, h3) =>
 (if b2 = true then (
 none)
 else (
 (nck a0).bind fun _ =>
 ((rd h3 (padd a0 5) 0)).bind fun x6 =>
 (slen x6).bind fun n7 =>
 (F266 100 (a1, n7, [])).bind fun (x8, x9, _) =>
 (F266 100 (a2, 3, [])).bind fun (x10, x11, _) =>
 (F267 N (a0, x8, x10, a3, a4, a5, h3)).bind fun (x12, x13, x14, h15) =>
 (if (x14 != 0) = true then (
 none)
 else (
 (F75 N (a5, h15)).bind fun (x16, _) =>
 (ck1 x16).bind fun _ =>
 (F265 N (a0, [(.int .i64 2), (.int .i64 x8), (.int .i64 x10), (.int .i64 a3), (.int .i64 a4), (.int .i64 x12), (.int .i64 x13), x16, (.int .i64 0), (.bool false), .nils, .nils, (.int .i64 0), (.int .i64 0), (.int .i64 0), (.int .i64 0), (.int .i64 0), (.int .i64 0), (.int .i64 0), (.int .i64 0), (.cplx .f64 0 0), (.str (ByteArray.mk #[])), (.int .i64 0), (.int .i64 0), .nils, (.int .i64 0), (.int .i64 0), .nils, .nils], h15)).bind fun h17 =>
 some (x12, x13, 0, h17)))))))
abbrev ks206 : List SK := [.one .ref, .one (.int .i64), .one (.int .i64), .one (.int .i64), .one (.int .i64), .one .ref]
abbrev rs206 : List SK := [.agg [(.int .i64), (.int .i64)], .one (.int .i64)]
def e206 (N : Nat) : Env := ⟨Tryz.prog, 79, inTab [12, 19], inTab [], natTab [(12, 12), (19, 19)], inTab [], calTab [(263, .ro (mkFun ks263 rs263 (F263 N))), (266, .pure (mkP ks266 rs266 (F266 100))), (267, .full (mkFun ks267 rs267 (F267 N))), (75, .ro (mkFun ks75 rs75 (F75 N))), (265, .full (mkFun ks265 rs265 (F265 N)))], altTab [], loopTab [], natTab [], inTab [3, 5, 10]⟩
theorem fine206 (N : Nat) : Fine (e206 N) N 206 Tryz.f206 ks206 rs206 (F206 N) :=
  ⟨Tryz.func206, by kernel_rfl, by kernel_rfl, by kernel_rfl, loops_of trivial, by kernel_rfl, by kernel_rfl, fun _ => by kernel_rfl⟩
theorem good206 (N : Nat) : Go.L.Good (e206 N) := good_of ⟨gd263 N, ⟨gd266, ⟨gd267 N, ⟨gd75 N, ⟨gd265 N, trivial⟩⟩⟩⟩⟩
theorem gd206 (N : Nat) : CalOk Tryz.prog 206 (.full (mkFun ks206 rs206 (F206 N))) := mkFun_good (fine206 N) (good206 N)
theorem gl206 (N : Nat) : CalOk Tryz.prog 206 (.full (mkFun ks206 rs206 (locF false ks206 rs206 (F206 N)))) := loc_full (gd206 N)

/-! ### 294: timer.Wheel).lives -/
def F294 (N : Nat) : V × H → Option (Bool × H)
 | (a0, h) =>
 (isNil a0).bind fun b1 =>
 (if (!b1) = true then (
 (nck a0).bind fun _ =>
 (L.asBool (rd h (padd a0 0) 0)).bind fun x4 =>
 some (x4, h))
 else (
 some (false, h))).bind fun (b2, h3) =>
 some (b2, h3)
abbrev ks294 : List SK := [.one .ref]
abbrev rs294 : List SK := [.one .bool]
def e294 (N : Nat) : Env := ⟨Tryz.prog, 11, inTab [], inTab [], natTab [], inTab [], calTab [], altTab [], loopTab [], natTab [], inTab []⟩
theorem fine294 (N : Nat) : Fine (e294 N) N 294 Tryz.f294 ks294 rs294 (F294 N) :=
  ⟨Tryz.func294, by kernel_rfl, by kernel_rfl, by kernel_rfl, loops_of trivial, by kernel_rfl, by kernel_rfl, fun _ => by kernel_rfl⟩
theorem good294 (N : Nat) : Go.L.Good (e294 N) := good_of trivial
theorem gd294 (N : Nat) : CalOk Tryz.prog 294 (.ro (mkFun ks294 rs294 (F294 N))) := mkFun_ro (fine294 N) (good294 N) (by kernel_rfl)

/-! ### 378: timer.Wheel).all$1 -/
def F378 (N : Nat) : V × V × H → Option (H)
 | (a0, a1, h) =>
 ((rd h a1 0)).bind fun x1 =>
 (nck a0).bind fun _ =>
 ((rd h a0 0)).bind fun x2 =>
 (scells h x2 12).bind fun cs5 =>
 (happ h x1 12 (snlen x2) cs5).bind fun (v3, h4) =>
 (ck1 v3).bind fun _ =>
 (wr h4 a1 [v3]).bind fun h6 =>
 some h6
abbrev ks378 : List SK := [.one .ref, .one .ref]
abbrev rs378 : List SK := []
def e378 (N : Nat) : Env := ⟨Tryz.prog, 8, inTab [], inTab [], natTab [], inTab [], calTab [], altTab [], loopTab [], natTab [], inTab []⟩
theorem fine378 (N : Nat) : Fine (e378 N) N 378 Tryz.f378 ks378 rs378 (F378 N) :=
  ⟨Tryz.func378, by kernel_rfl, by kernel_rfl, by kernel_rfl, loops_of trivial, by kernel_rfl, by kernel_rfl, fun _ => by kernel_rfl⟩
theorem good378 (N : Nat) : Go.L.Good (e378 N) := good_of trivial
theorem gd378 (N : Nat) : CalOk Tryz.prog 378 (.full (mkFun ks378 rs378 (F378 N))) := mkFun_good (fine378 N) (good378 N)

/-! ### 377: timer.Wheel).each -/
abbrev rs377_10 : List SK := []
def D377_10 (N : Nat) : List (Nat × (List V → H → Option (Tup rs377_10 H))) := [(378, (mkFun ks378 rs378 (F378 N)).F)]
theorem dg377_10 (N : Nat) : CalOk Tryz.prog 16777226 (.dyn (dynF rs377_10 (D377_10 N))) := dyn_good ⟨mkFun_good (fine378 N) (good378 N), trivial⟩
abbrev rs377_25 : List SK := []
def D377_25 (N : Nat) : List (Nat × (List V → H → Option (Tup rs377_25 H))) := [(378, (mkFun ks378 rs378 (F378 N)).F)]
theorem dg377_25 (N : Nat) : CalOk Tryz.prog 16777241 (.dyn (dynF rs377_25 (D377_25 N))) := dyn_good ⟨mkFun_good (fine378 N) (good378 N), trivial⟩
def L377_1 (N : Nat) : Nat → V × V × Int × Int × Int × H → Option (V × V × Int × H)
 | 0, _ => none
 | n + 1, (x15, x16, x17, x18, x19, h20) =>
 (if (decide (x19 < 64)) = true then (
 (nck x15).bind fun _ =>
 (aidx (padd x15 3) x17 4 64).bind fun q21 =>
 (aidx q21 x19 64 1).bind fun q22 =>
 Option.bind (α := H) (dynC rs377_25 (D377_25 N) x16 [q22] h20) fun h23 =>
 L377_1 N n (x15, x16, x17, x18, (IntKind.i64.wrap (x19 + 1)), h23))
 else (
 some (x15, x16, x18, h20)))
def L377_0 (N : Nat) : Nat → V × V × Int × H → Option (H)
 | 0, _ => none
 | n + 1, (x28, x29, x30, h31) =>
 (if (decide (x30 < 4)) = true then (
 (L377_1 N N (x28, x29, x30, x30, 0, h31)).bind fun (x32, x33, x34, h35) =>
 L377_0 N n (x32, x33, (IntKind.i64.wrap (x34 + 1)), h35))
 else (
 some h31))
def F377 (N : Nat) : V × V × H → Option (H)
 | (a0, a1, h) =>
 (nck a0).bind fun _ =>
 Option.bind (α := H) (dynC rs377_10 (D377_10 N) a1 [(padd a0 259)] h) fun h1 =>
 (L377_0 N N (a0, a1, 0, h1)).bind fun h36 =>
 some h36
abbrev ks377 : List SK := [.one .ref, .one .ref]
abbrev rs377 : List SK := []
def e377 (N : Nat) : Env := ⟨Tryz.prog, 28, inTab [], inTab [], natTab [], inTab [], calTab [(16777226, .dyn (dynF rs377_10 (D377_10 N))), (16777241, .dyn (dynF rs377_25 (D377_25 N)))], altTab [], loopTab [(2, ⟨⟨.normal, [0, 1, 11], [.one .ref, .one .ref, .one (.int .i64)], [], []⟩, [⟨(.exit 0), [], [], [], []⟩], L377_0 N⟩), (5, ⟨⟨.normal, [0, 1, 4, 11, 14], [.one .ref, .one .ref, .one (.int .i64), .one (.int .i64), .one (.int .i64)], [], []⟩, [⟨(.exit 2), [0, 1, 11], [.one .ref, .one .ref, .one (.int .i64)], [], []⟩], L377_1 N⟩)], natTab [], inTab []⟩
theorem l377_0 (N : Nat) : ∀ A, (e377 N).lp (lid (loopAt Tryz.f377 0)) = some A → LoopOk (e377 N) N (loopAt Tryz.f377 0) A :=
  loopOk_of (A := ⟨⟨.normal, [0, 1, 11], [.one .ref, .one .ref, .one (.int .i64)], [], []⟩, [⟨(.exit 0), [], [], [], []⟩], L377_0 N⟩) (by kernel_rfl) (fun _ => rfl) (fun _ _ => by kernel_rfl)
theorem l377_1 (N : Nat) : ∀ A, (e377 N).lp (lid (loopAt Tryz.f377 1)) = some A → LoopOk (e377 N) N (loopAt Tryz.f377 1) A :=
  loopOk_of (A := ⟨⟨.normal, [0, 1, 4, 11, 14], [.one .ref, .one .ref, .one (.int .i64), .one (.int .i64), .one (.int .i64)], [], []⟩, [⟨(.exit 2), [0, 1, 11], [.one .ref, .one .ref, .one (.int .i64)], [], []⟩], L377_1 N⟩) (by kernel_rfl) (fun _ => rfl) (fun _ _ => by kernel_rfl)
theorem fine377 (N : Nat) : Fine (e377 N) N 377 Tryz.f377 ks377 rs377 (F377 N) :=
  ⟨Tryz.func377, by kernel_rfl, by kernel_rfl, by kernel_rfl, loops_of ⟨l377_0 N, ⟨l377_1 N, trivial⟩⟩, by kernel_rfl, by kernel_rfl, fun _ => by kernel_rfl⟩
theorem good377 (N : Nat) : Go.L.Good (e377 N) := good_of ⟨dg377_10 N, ⟨dg377_25 N, trivial⟩⟩
theorem gd377 (N : Nat) : CalOk Tryz.prog 377 (.full (mkFun ks377 rs377 (F377 N))) := mkFun_good (fine377 N) (good377 N)


end
end Go.Proofs.YtkhnngghmlpbeaaGreat
