/- The functions that the law reaches, as plain ones (printed by gen.py). -/
import Derived.Test.YtgipaccfnlklcaaGreatg1
set_option linter.unusedVariables false
set_option maxRecDepth 100000
namespace Go.Proofs.YtgipaccfnlklcaaGreat
noncomputable section
open Go.L

/-! ### 151: core.Core).Push -/
def F151 (N : Nat) : V × Int × Int × Int × H → Option (Int × H)
 | (a0, a1, a2_0, a2_1, h) =>
 (F129 N (a0, h)).bind fun (x1, _) =>
 (if (!x1) = true then (
 some (true, h))
 else (
 (F130 100 (a1, [])).bind fun (x4, _) =>
 some ((!x4), h))).bind fun (b2, h3) =>
 (if b2 = true then (
 some (true, h3))
 else (
 (F264 N (a0, a2_0, a2_1, h3)).bind fun (x7, h8) =>
 some (x7, h8))).bind fun (b5, h6) =>
 (if b5 = true then (
 none)
 else (
 (nck a0).bind fun _ =>
 (aidx (padd a0 2) a1 3 1).bind fun q9 =>
 ((rd h6 (padd q9 0) 0)).bind fun x10 =>
 (F265 N (x10, a2_0, a2_1, false, h6)).bind fun (x11, h12) =>
 some (x11, h12)))
abbrev ks151 : List SK := [.one .ref, .one (.int .i64), .agg [(.int .i64), (.int .i64)]]
abbrev rs151 : List SK := [.one (.int .i64)]
def e151 (N : Nat) : Env := ⟨Tryz.prog, 30, inTab [5], inTab [], natTab [(5, 5)], inTab [], calTab [(129, .ro (mkFun ks129 rs129 (F129 N))), (130, .pure (mkP ks130 rs130 (F130 100))), (264, .full (mkFun ks264 rs264 (F264 N))), (265, .full (mkFun ks265 rs265 (F265 N)))], altTab [], loopTab [], natTab [], inTab [2]⟩
theorem fine151 (N : Nat) : Fine (e151 N) N 151 Tryz.f151 ks151 rs151 (F151 N) :=
  ⟨Tryz.func151, by kernel_rfl, by kernel_rfl, by kernel_rfl, loops_of trivial, by kernel_rfl, by kernel_rfl, fun _ => by kernel_rfl⟩
theorem good151 (N : Nat) : Go.L.Good (e151 N) := good_of ⟨gd129 N, ⟨gd130, ⟨gd264 N, ⟨gd265 N, trivial⟩⟩⟩⟩
theorem gd151 (N : Nat) : CalOk Tryz.prog 151 (.full (mkFun ks151 rs151 (F151 N))) := mkFun_good (fine151 N) (good151 N)

/-! ### 64: node.Node).ready -/
def F64 (N : Nat) : V × V × H → Option (H)
 | (a0, a1, h) =>
 (nck a0).bind fun _ =>
 ((rd h (padd a0 5) 0)).bind fun x1 =>
 (nck a1).bind fun _ =>
 (L.asInt .i64 (rd h (padd a1 3) 0)).bind fun x2 =>
 (sidx x1 x2 4).bind fun q3 =>
 ((rd h (padd q3 0) 0)).bind fun x4 =>
 (nck a1).bind fun _ =>
 (L.asInt .i64 (rd h (padd a1 2) 0)).bind fun x5 =>
 (nck a1).bind fun _ =>
 (L.asInt .i64 (rd h (padd a1 0) 0)).bind fun x6 =>
 (L.asInt .i64 (rd h (padd a1 0) 1)).bind fun x7 =>
 (F151 N (x4, x5, x6, x7, h)).bind fun (x8, h9) =>
 (nck a1).bind fun _ =>
 (wr h9 (padd a1 7) [(.int .i64 1)]).bind fun h10 =>
 some h10
abbrev ks64 : List SK := [.one .ref, .one .ref]
abbrev rs64 : List SK := []
def e64 (N : Nat) : Env := ⟨Tryz.prog, 27, inTab [], inTab [], natTab [], inTab [], calTab [(151, .full (mkFun ks151 rs151 (F151 N)))], altTab [], loopTab [], natTab [], inTab []⟩
theorem fine64 (N : Nat) : Fine (e64 N) N 64 Tryz.f64 ks64 rs64 (F64 N) :=
  ⟨Tryz.func64, by kernel_rfl, by kernel_rfl, by kernel_rfl, loops_of trivial, by kernel_rfl, by kernel_rfl, fun _ => by kernel_rfl⟩
theorem good64 (N : Nat) : Go.L.Good (e64 N) := good_of ⟨gd151 N, trivial⟩
theorem gd64 (N : Nat) : CalOk Tryz.prog 64 (.full (mkFun ks64 rs64 (F64 N))) := mkFun_good (fine64 N) (good64 N)

/-! ### 155: log.Log).given -/
def F155 (N : Nat) : V × H → Option (Bool × H)
 | (a0, h) =>
 (isNil a0).bind fun b1 =>
 (if (!b1) = true then (
 (nck a0).bind fun _ =>
 (L.asInt .i64 (rd h (padd a0 0) 0)).bind fun x4 =>
 some ((decide (x4 > 0)), h))
 else (
 some (false, h))).bind fun (b2, h3) =>
 some (b2, h3)
abbrev ks155 : List SK := [.one .ref]
abbrev rs155 : List SK := [.one .bool]
def e155 (N : Nat) : Env := ⟨Tryz.prog, 12, inTab [], inTab [], natTab [], inTab [], calTab [], altTab [], loopTab [], natTab [], inTab []⟩
theorem fine155 (N : Nat) : Fine (e155 N) N 155 Tryz.f155 ks155 rs155 (F155 N) :=
  ⟨Tryz.func155, by kernel_rfl, by kernel_rfl, by kernel_rfl, loops_of trivial, by kernel_rfl, by kernel_rfl, fun _ => by kernel_rfl⟩
theorem good155 (N : Nat) : Go.L.Good (e155 N) := good_of trivial
theorem gd155 (N : Nat) : CalOk Tryz.prog 155 (.ro (mkFun ks155 rs155 (F155 N))) := mkFun_ro (fine155 N) (good155 N) (by kernel_rfl)

/-! ### 157: log.kind -/
def F157 (N : Nat) : Int × H → Option (Bool × H)
 | (a0, h) =>
 (if (decide (a0 ≥ 1)) = true then (
 some ((decide (a0 ≤ 10)), h))
 else (
 some (false, h))).bind fun (b1, h2) =>
 some (b1, h2)
abbrev ks157 : List SK := [.one (.int .i64)]
abbrev rs157 : List SK := [.one .bool]
def e157 (N : Nat) : Env := ⟨Tryz.prog, 9, inTab [], inTab [], natTab [], inTab [], calTab [], altTab [], loopTab [], natTab [], inTab []⟩
theorem fine157 (N : Nat) : Fine (e157 N) N 157 Tryz.f157 ks157 rs157 (F157 N) :=
  ⟨Tryz.func157, by kernel_rfl, by kernel_rfl, by kernel_rfl, loops_of trivial, by kernel_rfl, by kernel_rfl, fun _ => by kernel_rfl⟩
theorem good157 (N : Nat) : Go.L.Good (e157 N) := good_of trivial
theorem gd157 : CalOk Tryz.prog 157 (.pure (mkP ks157 rs157 (F157 100))) := mkP_good (fine157 100) (good157 100) (by kernel_rfl) (by kernel_rfl)

/-! ### 143: log.Log).Add -/
def F143 (N : Nat) : V × Int × Int × Int × Int × Int × Int × H → Option (Int × H)
 | (a0, a1_0, a1_1, a1_2, a1_3, a1_4, a1_5, h) =>
 (F155 N (a0, h)).bind fun (x1, _) =>
 (if (!x1) = true then (
 some (true, h))
 else (
 (F157 100 (a1_0, [])).bind fun (x4, _) =>
 some ((!x4), h))).bind fun (b2, h3) =>
 (if b2 = true then (
 some (true, h3))
 else (
 some ((decide (a1_4 < 0)), h3))).bind fun (b5, h6) =>
 (if b5 = true then (
 some (true, h6))
 else (
 some ((decide (a1_4 > 4611686018427387903)), h6))).bind fun (b7, h8) =>
 (if b7 = true then (
 some (true, h8))
 else (
 some ((decide (a1_5 < 0)), h8))).bind fun (b9, h10) =>
 (if b9 = true then (
 some (true, h10))
 else (
 some ((decide (a1_5 > 4611686018427387903)), h10))).bind fun (b11, h12) =>
 (if b11 = true then (
 none)
 else (
 (nck a0).bind fun _ =>
 (aidx (padd a0 3) a1_0 11 1).bind fun q13 =>
 (L.asInt .i64 (rd h12 q13 0)).bind fun x14 =>
 (nck a0).bind fun _ =>
 (aidx (padd a0 3) a1_0 11 1).bind fun q15 =>
 (wr h12 q15 [(.int .i64 (IntKind.i64.wrap (x14 + 1)))]).bind fun h16 =>
 (nck a0).bind fun _ =>
 (aidx (padd a0 14) a1_0 11 1).bind fun q17 =>
 (L.asInt .i64 (rd h16 q17 0)).bind fun x18 =>
 (nck a0).bind fun _ =>
 (aidx (padd a0 14) a1_0 11 1).bind fun q19 =>
 (wr h16 q19 [(.int .i64 (Int.tmod (IntKind.i64.wrap (x18 + a1_4)) 4611686018427387904))]).bind fun h20 =>
 (nck a0).bind fun _ =>
 (aidx (padd a0 25) a1_0 11 1).bind fun q21 =>
 (L.asInt .i64 (rd h20 q21 0)).bind fun x22 =>
 (nck a0).bind fun _ =>
 (aidx (padd a0 25) a1_0 11 1).bind fun q23 =>
 (wr h20 q23 [(.int .i64 (Int.tmod (IntKind.i64.wrap (x22 + a1_5)) 4611686018427387904))]).bind fun h24 =>
 (nck a0).bind fun _ =>
 ((rd h24 (padd a0 1) 0)).bind fun x25 =>
 (slen x25).bind fun n26 =>
 (nck a0).bind fun _ =>
 (L.asInt .i64 (rd h24 (padd a0 0) 0)).bind fun x27 =>
 (if (decide (n26 < x27)) = true then (
 (nck a0).bind fun _ =>
 ((rd h24 (padd a0 1) 0)).bind fun x28 =>
 (happ h24 x28 6 1 [(.int .i64 a1_0), (.int .i64 a1_1), (.int .i64 a1_2), (.int .i64 a1_3), (.int .i64 a1_4), (.int .i64 a1_5)]).bind fun (v29, h30) =>
 (nck a0).bind fun _ =>
 (ck1 v29).bind fun _ =>
 (wr h30 (padd a0 1) [v29]).bind fun h31 =>
 some (0, h31))
 else (
 none))))
abbrev ks143 : List SK := [.one .ref, .agg [(.int .i64), (.int .i64), (.int .i64), (.int .i64), (.int .i64), (.int .i64)]]
abbrev rs143 : List SK := [.one (.int .i64)]
def e143 (N : Nat) : Env := ⟨Tryz.prog, 122, inTab [3, 95], inTab [], natTab [(3, 3), (9, 3), (15, 3), (20, 3), (25, 3), (30, 3), (35, 3), (46, 3), (49, 3), (55, 3), (63, 3), (66, 3), (72, 3)], inTab [], calTab [(155, .ro (mkFun ks155 rs155 (F155 N))), (157, .pure (mkP ks157 rs157 (F157 100)))], altTab [], loopTab [], natTab [], inTab [2, 9, 10, 11]⟩
theorem fine143 (N : Nat) : Fine (e143 N) N 143 Tryz.f143 ks143 rs143 (F143 N) :=
  ⟨Tryz.func143, by kernel_rfl, by kernel_rfl, by kernel_rfl, loops_of trivial, by kernel_rfl, by kernel_rfl, fun _ => by kernel_rfl⟩
theorem good143 (N : Nat) : Go.L.Good (e143 N) := good_of ⟨gd155 N, ⟨gd157, trivial⟩⟩
theorem gd143 (N : Nat) : CalOk Tryz.prog 143 (.full (mkFun ks143 rs143 (F143 N))) := mkFun_good (fine143 N) (good143 N)

/-! ### 60: node.Node).event -/
def F60 (N : Nat) : V × Int × Int × Int × Int × Int × Int × H → Option (H)
 | (a0, a1, a2, a3_0, a3_1, a4, a5, h) =>
 (nck a0).bind fun _ =>
 ((rd h (padd a0 10) 0)).bind fun x1 =>
 (F143 N (x1, a1, a2, a3_0, a3_1, a4, a5, h)).bind fun (x2, h3) =>
 some h3
abbrev ks60 : List SK := [.one .ref, .one (.int .i64), .one (.int .i64), .agg [(.int .i64), (.int .i64)], .one (.int .i64), .one (.int .i64)]
abbrev rs60 : List SK := []
def e60 (N : Nat) : Env := ⟨Tryz.prog, 23, inTab [9], inTab [], natTab [(9, 9)], inTab [], calTab [(143, .full (mkFun ks143 rs143 (F143 N)))], altTab [], loopTab [], natTab [], inTab []⟩
theorem fine60 (N : Nat) : Fine (e60 N) N 60 Tryz.f60 ks60 rs60 (F60 N) :=
  ⟨Tryz.func60, by kernel_rfl, by kernel_rfl, by kernel_rfl, loops_of trivial, by kernel_rfl, by kernel_rfl, fun _ => by kernel_rfl⟩
theorem good60 (N : Nat) : Go.L.Good (e60 N) := good_of ⟨gd143 N, trivial⟩
theorem gd60 (N : Nat) : CalOk Tryz.prog 60 (.full (mkFun ks60 rs60 (F60 N))) := mkFun_good (fine60 N) (good60 N)

/-! ### 40: node.Node).spawn -/
def F40 (N : Nat) : V × Int × Int × Int × Int × V × H → Option (Int × Int × Int × H)
 | (a0, a1, a2, a3, a4, a5, h) =>
 (nck a0).bind fun _ =>
 ((rd h (padd a0 1) 0)).bind fun x1 =>
 (sidx x1 a3 2).bind fun q2 =>
 (L.asStr (rd h q2 0)).bind fun x3 =>
 ((rd h q2 1)).bind fun x4 =>
 (F113 N (x3, x4, a4, a5, h)).bind fun (x5, x6, h7) =>
 (if (x6 != 0) = true then (
 none)
 else (
 (nck a0).bind fun _ =>
 ((rd h7 (padd a0 2) 0)).bind fun x8 =>
 (F114 N (x8, h7)).bind fun (x9, h10) =>
 (F115 N (x9, h10)).bind fun (x11, x12, x13, h14) =>
 (if (x13 != 0) = true then (
 none)
 else (
 (nck a0).bind fun _ =>
 ((rd h14 (padd a0 3) 0)).bind fun x15 =>
 (F95 N (x15, a1, a2, h14)).bind fun (x16, h17) =>
 (if (x16 != 0) = true then (
 none)
 else (
 (nck a0).bind fun _ =>
 (ck1 x9).bind fun _ =>
 (wr h17 (padd a0 2) [x9]).bind fun h18 =>
 (F116 N h18).bind fun (x19, h20) =>
 (ck1 x5).bind fun _ =>
 (ck1 x19).bind fun _ =>
 (some (h20 ++ [O.cells 0 [(.int .i64 x11), (.int .i64 x12), (.int .i64 a2), (.int .i64 a1), (.int .i64 a3), x5, x19, (.int .i64 0), (.bool false), (.bool false), (.int .i64 0), (.int .i64 (-1))]]) : Option H).bind fun h21 =>
 (nck a0).bind fun _ =>
 ((rd h21 (padd a0 6) 0)).bind fun x22 =>
 (hmapset h21 x22 (.int .i64 x11) (.ptr (h20).length 0 0)).bind fun h23 =>
 (F64 N (a0, (.ptr (h20).length 0 0), h23)).bind fun h24 =>
 (F60 N (a0, 1, a1, x11, x12, a2, a3, h24)).bind fun h25 =>
 some (x11, x12, 0, h25)))))))
abbrev ks40 : List SK := [.one .ref, .one (.int .i64), .one (.int .i64), .one (.int .i64), .one (.int .i64), .one .ref]
abbrev rs40 : List SK := [.agg [(.int .i64), (.int .i64)], .one (.int .i64)]
def e40 (N : Nat) : Env := ⟨Tryz.prog, 91, inTab [12, 17], inTab [], natTab [(12, 12), (17, 17), (78, 17)], inTab [], calTab [(113, .full (mkFun ks113 rs113 (F113 N))), (114, .full (mkFun ks114 rs114 (F114 N))), (115, .full (mkFun ks115 rs115 (F115 N))), (95, .full (mkFun ks95 rs95 (F95 N))), (116, .gro (mkFun ks116 rs116 (F116 N))), (64, .full (mkFun ks64 rs64 (F64 N))), (60, .full (mkFun ks60 rs60 (F60 N)))], altTab [], loopTab [], natTab [], inTab [3, 7, 10]⟩
theorem fine40 (N : Nat) : Fine (e40 N) N 40 Tryz.f40 ks40 rs40 (F40 N) :=
  ⟨Tryz.func40, by kernel_rfl, by kernel_rfl, by kernel_rfl, loops_of trivial, by kernel_rfl, by kernel_rfl, fun _ => by kernel_rfl⟩
theorem good40 (N : Nat) : Go.L.Good (e40 N) := good_of ⟨gd113 N, ⟨gd114 N, ⟨gd115 N, ⟨gd95 N, ⟨gdg116 N, ⟨gd64 N, ⟨gd60 N, trivial⟩⟩⟩⟩⟩⟩⟩
theorem gd40 (N : Nat) : CalOk Tryz.prog 40 (.full (mkFun ks40 rs40 (F40 N))) := mkFun_good (fine40 N) (good40 N)

/-! ### 11: node.Node).Spawn -/
def F11 (N : Nat) : V × Int × Int × Int × Int × V × H → Option (Int × Int × Int × H)
 | (a0, a1, a2, a3, a4, a5, h) =>
 (F35 N (a0, h)).bind fun (x1, _) =>
 (if (x1 != 0) = true then (
 some (0, 0, x1, h))
 else (
 (if (decide (a3 < 0)) = true then (
 some (true, h))
 else (
 (nck a0).bind fun _ =>
 ((rd h (padd a0 1) 0)).bind fun x4 =>
 (slen x4).bind fun n5 =>
 some ((decide (a3 ≥ n5)), h))).bind fun (b2, h3) =>
 (if b2 = true then (
 none)
 else (
 (nck a0).bind fun _ =>
 ((rd h3 (padd a0 5) 0)).bind fun x6 =>
 (slen x6).bind fun n7 =>
 (F39 100 (a1, n7, [])).bind fun (x8, x9, _) =>
 (F39 100 (a2, 3, [])).bind fun (x10, x11, _) =>
 (F40 N (a0, x8, x10, a3, a4, a5, h3)).bind fun (x12, x13, x14, h15) =>
 (if (x14 != 0) = true then (
 none)
 else (
 (F41 N (a5, h15)).bind fun (x16, _) =>
 (ck1 x16).bind fun _ =>
 (F38 N (a0, [(.int .i64 2), (.int .i64 x8), (.int .i64 x10), (.int .i64 a3), (.int .i64 a4), (.int .i64 x12), (.int .i64 x13), x16, (.int .i64 0), (.bool false), .nils, .nils, (.int .i64 0), (.int .i64 0), (.int .i64 0), (.int .i64 0), (.int .i64 0), (.int .i64 0), (.int .i64 0), (.int .i64 0), (.cplx .f64 0 0), (.str (ByteArray.mk #[])), (.int .i64 0), (.int .i64 0), .nils, (.int .i64 0), (.int .i64 0), .nils, .nils], h15)).bind fun h17 =>
 some (x12, x13, 0, h17)))))))
abbrev ks11 : List SK := [.one .ref, .one (.int .i64), .one (.int .i64), .one (.int .i64), .one (.int .i64), .one .ref]
abbrev rs11 : List SK := [.agg [(.int .i64), (.int .i64)], .one (.int .i64)]
def e11 (N : Nat) : Env := ⟨Tryz.prog, 79, inTab [12, 19], inTab [], natTab [(12, 12), (19, 19)], inTab [], calTab [(35, .ro (mkFun ks35 rs35 (F35 N))), (39, .pure (mkP ks39 rs39 (F39 100))), (40, .full (mkFun ks40 rs40 (F40 N))), (41, .ro (mkFun ks41 rs41 (F41 N))), (38, .full (mkFun ks38 rs38 (F38 N)))], altTab [], loopTab [], natTab [], inTab [5, 10]⟩
theorem fine11 (N : Nat) : Fine (e11 N) N 11 Tryz.f11 ks11 rs11 (F11 N) :=
  ⟨Tryz.func11, by kernel_rfl, by kernel_rfl, by kernel_rfl, loops_of trivial, by kernel_rfl, by kernel_rfl, fun _ => by kernel_rfl⟩
theorem good11 (N : Nat) : Go.L.Good (e11 N) := good_of ⟨gd35 N, ⟨gd39, ⟨gd40 N, ⟨gd41 N, ⟨gd38 N, trivial⟩⟩⟩⟩⟩
theorem gd11 (N : Nat) : CalOk Tryz.prog 11 (.full (mkFun ks11 rs11 (F11 N))) := mkFun_good (fine11 N) (good11 N)
theorem gl11 (N : Nat) : CalOk Tryz.prog 11 (.full (mkFun ks11 rs11 (locF false ks11 rs11 (F11 N)))) := loc_full (gd11 N)

/-! ### 132: timer.Wheel).lives -/
def F132 (N : Nat) : V × H → Option (Bool × H)
 | (a0, h) =>
 (isNil a0).bind fun b1 =>
 (if (!b1) = true then (
 (nck a0).bind fun _ =>
 (L.asBool (rd h (padd a0 0) 0)).bind fun x4 =>
 some (x4, h))
 else (
 some (false, h))).bind fun (b2, h3) =>
 some (b2, h3)
abbrev ks132 : List SK := [.one .ref]
abbrev rs132 : List SK := [.one .bool]
def e132 (N : Nat) : Env := ⟨Tryz.prog, 11, inTab [], inTab [], natTab [], inTab [], calTab [], altTab [], loopTab [], natTab [], inTab []⟩
theorem fine132 (N : Nat) : Fine (e132 N) N 132 Tryz.f132 ks132 rs132 (F132 N) :=
  ⟨Tryz.func132, by kernel_rfl, by kernel_rfl, by kernel_rfl, loops_of trivial, by kernel_rfl, by kernel_rfl, fun _ => by kernel_rfl⟩
theorem good132 (N : Nat) : Go.L.Good (e132 N) := good_of trivial
theorem gd132 (N : Nat) : CalOk Tryz.prog 132 (.ro (mkFun ks132 rs132 (F132 N))) := mkFun_ro (fine132 N) (good132 N) (by kernel_rfl)

/-! ### 252: timer.Wheel).all$1 -/
def F252 (N : Nat) : V × V × H → Option (H)
 | (a0, a1, h) =>
 ((rd h a1 0)).bind fun x1 =>
 (nck a0).bind fun _ =>
 ((rd h a0 0)).bind fun x2 =>
 (scells h x2 12).bind fun cs5 =>
 (happ h x1 12 (snlen x2) cs5).bind fun (v3, h4) =>
 (ck1 v3).bind fun _ =>
 (wr h4 a1 [v3]).bind fun h6 =>
 some h6
abbrev ks252 : List SK := [.one .ref, .one .ref]
abbrev rs252 : List SK := []
def e252 (N : Nat) : Env := ⟨Tryz.prog, 8, inTab [], inTab [], natTab [], inTab [], calTab [], altTab [], loopTab [], natTab [], inTab []⟩
theorem fine252 (N : Nat) : Fine (e252 N) N 252 Tryz.f252 ks252 rs252 (F252 N) :=
  ⟨Tryz.func252, by kernel_rfl, by kernel_rfl, by kernel_rfl, loops_of trivial, by kernel_rfl, by kernel_rfl, fun _ => by kernel_rfl⟩
theorem good252 (N : Nat) : Go.L.Good (e252 N) := good_of trivial
theorem gd252 (N : Nat) : CalOk Tryz.prog 252 (.full (mkFun ks252 rs252 (F252 N))) := mkFun_good (fine252 N) (good252 N)

/-! ### 251: timer.Wheel).each -/
abbrev rs251_10 : List SK := []
def D251_10 (N : Nat) : List (Nat × (List V → H → Option (Tup rs251_10 H))) := [(252, (mkFun ks252 rs252 (F252 N)).F)]
theorem dg251_10 (N : Nat) : CalOk Tryz.prog 16777226 (.dyn (dynF rs251_10 (D251_10 N))) := dyn_good ⟨mkFun_good (fine252 N) (good252 N), trivial⟩
abbrev rs251_25 : List SK := []
def D251_25 (N : Nat) : List (Nat × (List V → H → Option (Tup rs251_25 H))) := [(252, (mkFun ks252 rs252 (F252 N)).F)]
theorem dg251_25 (N : Nat) : CalOk Tryz.prog 16777241 (.dyn (dynF rs251_25 (D251_25 N))) := dyn_good ⟨mkFun_good (fine252 N) (good252 N), trivial⟩
def L251_1 (N : Nat) : Nat → V × V × Int × Int × Int × H → Option (V × V × Int × H)
 | 0, _ => none
 | n + 1, (x15, x16, x17, x18, x19, h20) =>
 (if (decide (x19 < 64)) = true then (
 (nck x15).bind fun _ =>
 (aidx (padd x15 3) x17 4 64).bind fun q21 =>
 (aidx q21 x19 64 1).bind fun q22 =>
 Option.bind (α := H) (dynC rs251_25 (D251_25 N) x16 [q22] h20) fun h23 =>
 L251_1 N n (x15, x16, x17, x18, (IntKind.i64.wrap (x19 + 1)), h23))
 else (
 some (x15, x16, x18, h20)))
def L251_0 (N : Nat) : Nat → V × V × Int × H → Option (H)
 | 0, _ => none
 | n + 1, (x28, x29, x30, h31) =>
 (if (decide (x30 < 4)) = true then (
 (L251_1 N N (x28, x29, x30, x30, 0, h31)).bind fun (x32, x33, x34, h35) =>
 L251_0 N n (x32, x33, (IntKind.i64.wrap (x34 + 1)), h35))
 else (
 some h31))
def F251 (N : Nat) : V × V × H → Option (H)
 | (a0, a1, h) =>
 (nck a0).bind fun _ =>
 Option.bind (α := H) (dynC rs251_10 (D251_10 N) a1 [(padd a0 259)] h) fun h1 =>
 (L251_0 N N (a0, a1, 0, h1)).bind fun h36 =>
 some h36
abbrev ks251 : List SK := [.one .ref, .one .ref]
abbrev rs251 : List SK := []
def e251 (N : Nat) : Env := ⟨Tryz.prog, 28, inTab [], inTab [], natTab [], inTab [], calTab [(16777226, .dyn (dynF rs251_10 (D251_10 N))), (16777241, .dyn (dynF rs251_25 (D251_25 N)))], altTab [], loopTab [(2, ⟨⟨.normal, [0, 1, 11], [.one .ref, .one .ref, .one (.int .i64)], [], []⟩, [⟨(.exit 0), [], [], [], []⟩], L251_0 N⟩), (5, ⟨⟨.normal, [0, 1, 4, 11, 14], [.one .ref, .one .ref, .one (.int .i64), .one (.int .i64), .one (.int .i64)], [], []⟩, [⟨(.exit 2), [0, 1, 11], [.one .ref, .one .ref, .one (.int .i64)], [], []⟩], L251_1 N⟩)], natTab [], inTab []⟩
theorem l251_0 (N : Nat) : ∀ A, (e251 N).lp (lid (loopAt Tryz.f251 0)) = some A → LoopOk (e251 N) N (loopAt Tryz.f251 0) A :=
  loopOk_of (A := ⟨⟨.normal, [0, 1, 11], [.one .ref, .one .ref, .one (.int .i64)], [], []⟩, [⟨(.exit 0), [], [], [], []⟩], L251_0 N⟩) (by kernel_rfl) (fun _ => rfl) (fun _ _ => by kernel_rfl)
theorem l251_1 (N : Nat) : ∀ A, (e251 N).lp (lid (loopAt Tryz.f251 1)) = some A → LoopOk (e251 N) N (loopAt Tryz.f251 1) A :=
  loopOk_of (A := ⟨⟨.normal, [0, 1, 4, 11, 14], [.one .ref, .one .ref, .one (.int .i64), .one (.int .i64), .one (.int .i64)], [], []⟩, [⟨(.exit 2), [0, 1, 11], [.one .ref, .one .ref, .one (.int .i64)], [], []⟩], L251_1 N⟩) (by kernel_rfl) (fun _ => rfl) (fun _ _ => by kernel_rfl)
theorem fine251 (N : Nat) : Fine (e251 N) N 251 Tryz.f251 ks251 rs251 (F251 N) :=
  ⟨Tryz.func251, by kernel_rfl, by kernel_rfl, by kernel_rfl, loops_of ⟨l251_0 N, ⟨l251_1 N, trivial⟩⟩, by kernel_rfl, by kernel_rfl, fun _ => by kernel_rfl⟩
theorem good251 (N : Nat) : Go.L.Good (e251 N) := good_of ⟨dg251_10 N, ⟨dg251_25 N, trivial⟩⟩
theorem gd251 (N : Nat) : CalOk Tryz.prog 251 (.full (mkFun ks251 rs251 (F251 N))) := mkFun_good (fine251 N) (good251 N)

/-! ### 355: bits.Len64 -/
def F355 (N : Nat) : Int × H → Option (Int × H)
 | (a0, h) =>
 (if (decide (a0 ≥ 4294967296)) = true then (
 none)
 else (
 (if (decide (a0 ≥ 65536)) = true then (
 none)
 else (
 (if (decide (a0 ≥ 256)) = true then (
 none)
 else (
 (if 0 ≤ (IntKind.u8.wrap a0) then ((ByteArray.mk #[0, 1, 2, 2, 3, 3, 3, 3, 4, 4, 4, 4, 4, 4, 4, 4, 5, 5, 5, 5, 5, 5, 5, 5, 5, 5, 5, 5, 5, 5, 5, 5, 6, 6, 6, 6, 6, 6, 6, 6, 6, 6, 6, 6, 6, 6, 6, 6, 6, 6, 6, 6, 6, 6, 6, 6, 6, 6, 6, 6, 6, 6, 6, 6, 7, 7, 7, 7, 7, 7, 7, 7, 7, 7, 7, 7, 7, 7, 7, 7, 7, 7, 7, 7, 7, 7, 7, 7, 7, 7, 7, 7, 7, 7, 7, 7, 7, 7, 7, 7, 7, 7, 7, 7, 7, 7, 7, 7, 7, 7, 7, 7, 7, 7, 7, 7, 7, 7, 7, 7, 7, 7, 7, 7, 7, 7, 7, 7, 8, 8, 8, 8, 8, 8, 8, 8, 8, 8, 8, 8, 8, 8, 8, 8, 8, 8, 8, 8, 8, 8, 8, 8, 8, 8, 8, 8, 8, 8, 8, 8, 8, 8, 8, 8, 8, 8, 8, 8, 8, 8, 8, 8, 8, 8, 8, 8, 8, 8, 8, 8, 8, 8, 8, 8, 8, 8, 8, 8, 8, 8, 8, 8, 8, 8, 8, 8, 8, 8, 8, 8, 8, 8, 8, 8, 8, 8, 8, 8, 8, 8, 8, 8, 8, 8, 8, 8, 8, 8, 8, 8, 8, 8, 8, 8, 8, 8, 8, 8, 8, 8, 8, 8, 8, 8, 8, 8, 8, 8, 8, 8, 8, 8, 8, 8, 8, 8, 8, 8, 8, 8, 8, 8, 8, 8, 8, 8])[Int.toNat (IntKind.u8.wrap a0)]?.bind fun c1 =>
 some ((IntKind.i64.wrap (0 + (IntKind.i64.wrap ((UInt8.toNat c1 : Nat) : Int)))), h)) else none)))))))
abbrev ks355 : List SK := [.one (.int .u64)]
abbrev rs355 : List SK := [.one (.int .i64)]
def e355 (N : Nat) : Env := ⟨Tryz.prog, 25, inTab [], inTab [], natTab [], inTab [], calTab [], altTab [], loopTab [], natTab [], inTab [2, 3, 5, 6, 8, 9]⟩
theorem fine355 (N : Nat) : Fine (e355 N) N 355 Tryz.f355 ks355 rs355 (F355 N) :=
  ⟨Tryz.func355, by kernel_rfl, by kernel_rfl, by kernel_rfl, loops_of trivial, by kernel_rfl, by kernel_rfl, fun _ => by kernel_rfl⟩
theorem good355 (N : Nat) : Go.L.Good (e355 N) := good_of trivial
theorem gd355 : CalOk Tryz.prog 355 (.pure (mkP ks355 rs355 (F355 100))) := mkP_good (fine355 100) (good355 100) (by kernel_rfl) (by kernel_rfl)

/-! ### 256: bits.Len -/
def F256 (N : Nat) : Int × H → Option (Int × H)
 | (a0, h) =>
 (if false = true then (
 none)
 else (
 (F355 100 (a0, [])).bind fun (x1, _) =>
 some (x1, h)))
abbrev ks256 : List SK := [.one (.int .u64)]
abbrev rs256 : List SK := [.one (.int .i64)]
def e256 (N : Nat) : Env := ⟨Tryz.prog, 8, inTab [], inTab [], natTab [], inTab [], calTab [(355, .pure (mkP ks355 rs355 (F355 100)))], altTab [], loopTab [], natTab [], inTab [1]⟩
theorem fine256 (N : Nat) : Fine (e256 N) N 256 Tryz.f256 ks256 rs256 (F256 N) :=
  ⟨Tryz.func256, by kernel_rfl, by kernel_rfl, by kernel_rfl, loops_of trivial, by kernel_rfl, by kernel_rfl, fun _ => by kernel_rfl⟩
theorem good256 (N : Nat) : Go.L.Good (e256 N) := good_of ⟨gd355, trivial⟩
theorem gd256 : CalOk Tryz.prog 256 (.pure (mkP ks256 rs256 (F256 100))) := mkP_good (fine256 100) (good256 100) (by kernel_rfl) (by kernel_rfl)

/-! ### 416: timer.entry] -/
def L416_0 (N : Nat) : Nat → Int × Int × H → Option (H)
 | 0, _ => none
 | n + 1, (x4, x5, h6) =>
 (if (decide (x5 < x4)) = true then (
 none)
 else (
 some h6))
def F416 (N : Nat) : V × Int × Int × V × H → Option (H)
 | (a0, a1, a2, a3, h) =>
 (L416_0 N N (a2, (IntKind.i64.wrap (a1 + 1)), h)).bind fun h7 =>
 some h7
abbrev ks416 : List SK := [.one .ref, .one (.int .i64), .one (.int .i64), .one .ref]
abbrev rs416 : List SK := []
def e416 (N : Nat) : Env := ⟨Tryz.prog, 53, inTab [], inTab [], natTab [], inTab [], calTab [], altTab [], loopTab [(1, ⟨⟨.normal, [2, 8], [.one (.int .i64), .one (.int .i64)], [], []⟩, [⟨(.exit 0), [], [], [], []⟩], L416_0 N⟩)], natTab [], inTab [2, 3, 4, 5, 6]⟩
theorem l416_0 (N : Nat) : ∀ A, (e416 N).lp (lid (loopAt Tryz.f416 0)) = some A → LoopOk (e416 N) N (loopAt Tryz.f416 0) A :=
  loopOk_of (A := ⟨⟨.normal, [2, 8], [.one (.int .i64), .one (.int .i64)], [], []⟩, [⟨(.exit 0), [], [], [], []⟩], L416_0 N⟩) (by kernel_rfl) (fun _ => rfl) (fun _ _ => by kernel_rfl)
theorem lv416_1 (N : Nat) : ∀ A, (e416 N).lp (lid (loopAt Tryz.f416 1)) = some A → LoopOk (e416 N) N (loopAt Tryz.f416 1) A := fun A h => by
 rw [show (e416 N).lp (lid (loopAt Tryz.f416 1)) = none by kernel_rfl] at h; cases h
theorem fine416 (N : Nat) : Fine (e416 N) N 416 Tryz.f416 ks416 rs416 (F416 N) :=
  ⟨Tryz.func416, by kernel_rfl, by kernel_rfl, by kernel_rfl, loops_of ⟨l416_0 N, ⟨lv416_1 N, trivial⟩⟩, by kernel_rfl, by kernel_rfl, fun _ => by kernel_rfl⟩
theorem good416 (N : Nat) : Go.L.Good (e416 N) := good_of trivial
theorem gdg416 (N : Nat) : CalOk Tryz.prog 416 (.gro (mkFun ks416 rs416 (F416 N))) := mkFun_groC (fine416 N) (good416 N) (by kernel_rfl)

/-! ### 345: timer.entry] -/
def L345_0 (N : Nat) (rec : V × Int × Int × Int × V × H → Option (H)) : Nat → V × Int × Int × V × H → Option (H)
 | 0, _ => none
 | n + 1, (x7, x8, x9, x10, h11) =>
 (if (decide ((IntKind.i64.wrap (x9 - x8)) ≤ 12)) = true then (
 (F416 N (x7, x8, x9, x10, h11)).bind fun h12 =>
 some h12)
 else (
 none))
def F345 (N : Nat) : Nat → V × Int × Int × Int × V × H → Option (H)
 | 0, _ => none
 | d + 1, (a0, a1, a2, a3, a4, h) =>
 (L345_0 N (F345 N d) N (a0, a1, a2, a4, h)).bind fun h13 =>
 some h13
abbrev ks345 : List SK := [.one .ref, .one (.int .i64), .one (.int .i64), .one (.int .i64), .one .ref]
abbrev rs345 : List SK := []
def e345 (N d : Nat) : Env := ⟨Tryz.prog, 148, inTab [], inTab [], natTab [], inTab [], calTab [(416, .gro (mkFun ks416 rs416 (F416 N)))], altTab [], loopTab [(2, ⟨⟨.normal, [0, 1, 2, 4], [.one .ref, .one (.int .i64), .one (.int .i64), .one .ref], [], []⟩, [⟨.ret, [], [], [], []⟩], L345_0 N (F345 N d)⟩)], natTab [], inTab [5, 6, 7, 8, 9, 10, 11, 12, 13, 14, 15, 16, 17, 18, 19, 20, 21, 22, 23, 24, 25, 26, 27, 28, 29, 30]⟩
theorem l345_0 (N d : Nat) : ∀ A, (e345 N d).lp (lid (loopAt Tryz.f345 0)) = some A → LoopOk (e345 N d) N (loopAt Tryz.f345 0) A :=
  loopOk_of (A := ⟨⟨.normal, [0, 1, 2, 4], [.one .ref, .one (.int .i64), .one (.int .i64), .one .ref], [], []⟩, [⟨.ret, [], [], [], []⟩], L345_0 N (F345 N d)⟩) (by kernel_rfl) (fun _ => rfl) (fun _ _ => by kernel_rfl)
theorem fine345 (N d : Nat) : Fine (e345 N d) N 345 Tryz.f345 ks345 rs345 (F345 N (d + 1)) :=
  ⟨Tryz.func345, by kernel_rfl, by kernel_rfl, by kernel_rfl, loops_of ⟨l345_0 N d, trivial⟩, by kernel_rfl, by kernel_rfl, fun _ => by kernel_rfl⟩
theorem gd345 (N : Nat) : ∀ d, CalOk Tryz.prog 345 (.full (mkFun ks345 rs345 (F345 N d)))
  | 0 => fun vs h s he => by obtain ⟨t, _, he⟩ := Option.bind_eq_some_iff.1 he; cases he
  | d + 1 => mkFun_good (fine345 N d) (good_of ⟨gdg416 N, trivial⟩)
theorem good345 (N d : Nat) : Go.L.Good (e345 N d) := good_of ⟨gdg416 N, trivial⟩

/-! ### 253: timer.entry] -/
def F253 (N : Nat) : V × V × H → Option (H)
 | (a0, a1, h) =>
 (slen a0).bind fun n1 =>
 (F256 100 ((IntKind.u64.wrap n1), [])).bind fun (x2, _) =>
 (F345 N N (a0, 0, n1, x2, a1, h)).bind fun h3 =>
 some h3
abbrev ks253 : List SK := [.one .ref, .one .ref]
abbrev rs253 : List SK := []
def e253 (N : Nat) : Env := ⟨Tryz.prog, 14, inTab [], inTab [], natTab [], inTab [], calTab [(256, .pure (mkP ks256 rs256 (F256 100))), (345, .full (mkFun ks345 rs345 (F345 N N)))], altTab [], loopTab [], natTab [], inTab []⟩
theorem fine253 (N : Nat) : Fine (e253 N) N 253 Tryz.f253 ks253 rs253 (F253 N) :=
  ⟨Tryz.func253, by kernel_rfl, by kernel_rfl, by kernel_rfl, loops_of trivial, by kernel_rfl, by kernel_rfl, fun _ => by kernel_rfl⟩
theorem good253 (N : Nat) : Go.L.Good (e253 N) := good_of ⟨gd256, ⟨gd345 N N, trivial⟩⟩
theorem gd253 (N : Nat) : CalOk Tryz.prog 253 (.full (mkFun ks253 rs253 (F253 N))) := mkFun_good (fine253 N) (good253 N)

/-! ### 134: timer.Wheel).all -/
def F134 (N : Nat) : V × H → Option (V × H)
 | (a0, h) =>
 (some (h ++ [O.cells 0 [.nils]]) : Option H).bind fun h1 =>
 (F251 N (a0, (.fn 252 [(.ptr (h).length 0 0)]), h1)).bind fun h2 =>
 ((rd h2 (.ptr (h).length 0 0) 0)).bind fun x3 =>
 (F253 N (x3, (.fn 254 []), h2)).bind fun h4 =>
 ((rd h4 (.ptr (h).length 0 0) 0)).bind fun x5 =>
 some (x5, h4)
abbrev ks134 : List SK := [.one .ref]
abbrev rs134 : List SK := [.one .ref]
def e134 (N : Nat) : Env := ⟨Tryz.prog, 10, inTab [], inTab [], natTab [], inTab [], calTab [(251, .full (mkFun ks251 rs251 (F251 N))), (253, .full (mkFun ks253 rs253 (F253 N)))], altTab [], loopTab [], natTab [], inTab []⟩
theorem fine134 (N : Nat) : Fine (e134 N) N 134 Tryz.f134 ks134 rs134 (F134 N) :=
  ⟨Tryz.func134, by kernel_rfl, by kernel_rfl, by kernel_rfl, loops_of trivial, by kernel_rfl, by kernel_rfl, fun _ => by kernel_rfl⟩
theorem good134 (N : Nat) : Go.L.Good (e134 N) := good_of ⟨gd251 N, ⟨gd253 N, trivial⟩⟩
theorem gd134 (N : Nat) : CalOk Tryz.prog 134 (.full (mkFun ks134 rs134 (F134 N))) := mkFun_good (fine134 N) (good134 N)
theorem gl134 (N : Nat) : CalOk Tryz.prog 134 (.full (mkFun ks134 rs134 (locF false ks134 rs134 (F134 N)))) := loc_full (gd134 N)

/-! ### 133: timer.told -/
def L133_0 (N : Nat) : Nat → V × Int × Int × H → Option (V × H)
 | 0, _ => none
 | n + 1, (x6, x7, x8, h9) =>
 (if (decide (x8 < x7)) = true then (
 none)
 else (
 some (x6, h9)))
def F133 (N : Nat) : V × H → Option (V × H)
 | (a0, h) =>
 (slen a0).bind fun n1 =>
 (L133_0 N N (.nils, n1, 0, h)).bind fun (x10, h11) =>
 some (x10, h11)
abbrev ks133 : List SK := [.one .ref]
abbrev rs133 : List SK := [.one .ref]
def e133 (N : Nat) : Env := ⟨Tryz.prog, 19, inTab [5, 15], inTab [], natTab [(5, 5), (13, 5)], inTab [], calTab [], altTab [], loopTab [(3, ⟨⟨.normal, [3, 7, 8], [.one .ref, .one (.int .i64), .one (.int .i64)], [], []⟩, [⟨(.exit 0), [3], [.one .ref], [], []⟩], L133_0 N⟩)], natTab [], inTab [4, 5, 6]⟩
theorem l133_0 (N : Nat) : ∀ A, (e133 N).lp (lid (loopAt Tryz.f133 0)) = some A → LoopOk (e133 N) N (loopAt Tryz.f133 0) A :=
  loopOk_of (A := ⟨⟨.normal, [3, 7, 8], [.one .ref, .one (.int .i64), .one (.int .i64)], [], []⟩, [⟨(.exit 0), [3], [.one .ref], [], []⟩], L133_0 N⟩) (by kernel_rfl) (fun _ => rfl) (fun _ _ => by kernel_rfl)
theorem fine133 (N : Nat) : Fine (e133 N) N 133 Tryz.f133 ks133 rs133 (F133 N) :=
  ⟨Tryz.func133, by kernel_rfl, by kernel_rfl, by kernel_rfl, loops_of ⟨l133_0 N, trivial⟩, by kernel_rfl, by kernel_rfl, fun _ => by kernel_rfl⟩
theorem good133 (N : Nat) : Go.L.Good (e133 N) := good_of trivial
theorem gd133 (N : Nat) : CalOk Tryz.prog 133 (.ro (mkFun ks133 rs133 (F133 N))) := mkFun_ro (fine133 N) (good133 N) (by kernel_rfl)

/-! ### 66: table.Table).Live -/
def L66_0 (N : Nat) : Nat → V × V × V × Int × Int × H → Option (V × H)
 | 0, _ => none
 | n + 1, (x24, x25, x26, x27, x28, h29) =>
 (if (decide (x28 < x27)) = true then (
 (sidx x26 x28 3).bind fun q30 =>
 (L.asInt .i64 (rd h29 q30 0)).bind fun x31 =>
 (L.asBool (rd h29 q30 1)).bind fun x32 =>
 (L.asStr (rd h29 q30 2)).bind fun x33 =>
 ((if x32 = true then (
 (F154 N (x24, x28, h29)).bind fun (x34, x35, _) =>
 (happ h29 x25 2 1 [(.int .i64 x34), (.int .i64 x35)]).bind fun (v36, h37) =>
 some (x24, v36, x26, x27, x28, h37))
 else (
 some (x24, x25, x26, x27, x28, h29))) : Option (V × V × V × Int × Int × H)).bind fun (x38, x39, x40, x41, x42, h43) =>
 L66_0 N n (x38, x39, x40, x41, (IntKind.i64.wrap (x42 + 1)), h43))
 else (
 some (x25, h29)))
def F66 (N : Nat) : V × H → Option (V × H)
 | (a0, h) =>
 (F126 N (a0, h)).bind fun (x1, _) =>
 (if (!x1) = true then (
 none)
 else (
 (nck a0).bind fun _ =>
 ((rd h (padd a0 0) 0)).bind fun x2 =>
 (slen x2).bind fun n3 =>
 (L66_0 N N (a0, .nils, x2, n3, 0, h)).bind fun (x44, h45) =>
 some (x44, h45)))
abbrev ks66 : List SK := [.one .ref]
abbrev rs66 : List SK := [.one .ref]
def e66 (N : Nat) : Env := ⟨Tryz.prog, 29, inTab [5, 25], inTab [], natTab [(5, 5), (19, 5)], inTab [], calTab [(126, .ro (mkFun ks126 rs126 (F126 N))), (154, .ro (mkFun ks154 rs154 (F154 N)))], altTab [(524308, [⟨.normal, [0, 3, 12, 13, 14], [.one .ref, .one .ref, .one .ref, .one (.int .i64), .one (.int .i64)], [], []⟩])], loopTab [(5, ⟨⟨.normal, [0, 3, 12, 13, 14], [.one .ref, .one .ref, .one .ref, .one (.int .i64), .one (.int .i64)], [], []⟩, [⟨(.exit 0), [3], [.one .ref], [], []⟩], L66_0 N⟩)], natTab [], inTab [2]⟩
theorem l66_0 (N : Nat) : ∀ A, (e66 N).lp (lid (loopAt Tryz.f66 0)) = some A → LoopOk (e66 N) N (loopAt Tryz.f66 0) A :=
  loopOk_of (A := ⟨⟨.normal, [0, 3, 12, 13, 14], [.one .ref, .one .ref, .one .ref, .one (.int .i64), .one (.int .i64)], [], []⟩, [⟨(.exit 0), [3], [.one .ref], [], []⟩], L66_0 N⟩) (by kernel_rfl) (fun _ => rfl) (fun _ _ => by kernel_rfl)
theorem fine66 (N : Nat) : Fine (e66 N) N 66 Tryz.f66 ks66 rs66 (F66 N) :=
  ⟨Tryz.func66, by kernel_rfl, by kernel_rfl, by kernel_rfl, loops_of ⟨l66_0 N, trivial⟩, by kernel_rfl, by kernel_rfl, fun _ => by kernel_rfl⟩
theorem good66 (N : Nat) : Go.L.Good (e66 N) := good_of ⟨gd126 N, ⟨gd154 N, trivial⟩⟩
theorem gd66 (N : Nat) : CalOk Tryz.prog 66 (.full (mkFun ks66 rs66 (F66 N))) := mkFun_good (fine66 N) (good66 N)

/-! ### 50: node.Node).all -/
def L50_0 (N : Nat) : Nat → V × V × V × Int × Int × H → Option (V × H)
 | 0, _ => none
 | n + 1, (x20, x21, x22, x23, x24, h25) =>
 (if (decide (x24 < x23)) = true then (
 (sidx x22 x24 2).bind fun q26 =>
 (L.asInt .i64 (rd h25 q26 0)).bind fun x27 =>
 (L.asInt .i64 (rd h25 q26 1)).bind fun x28 =>
 (nck x20).bind fun _ =>
 ((rd h25 (padd x20 6) 0)).bind fun x29 =>
 (hmap h25 x29).bind fun es30 =>
 (mlook (.int .i64 x27) es30).bind fun q31 =>
 ((some (Option.getD q31 .nilp))).bind fun x32 =>
 (ck1 x32).bind fun _ =>
 (happ h25 x21 1 1 (List.flatMap V.cells [x32])).bind fun (v33, h34) =>
 L50_0 N n (x20, v33, x22, x23, (IntKind.i64.wrap (x24 + 1)), h34))
 else (
 some (x21, h25)))
def F50 (N : Nat) : V × H → Option (V × H)
 | (a0, h) =>
 (nck a0).bind fun _ =>
 ((rd h (padd a0 2) 0)).bind fun x1 =>
 (F66 N (x1, h)).bind fun (x2, h3) =>
 (slen x2).bind fun n4 =>
 (L50_0 N N (a0, .nils, x2, n4, 0, h3)).bind fun (x35, h36) =>
 some (x35, h36)
abbrev ks50 : List SK := [.one .ref]
abbrev rs50 : List SK := [.one .ref]
def e50 (N : Nat) : Env := ⟨Tryz.prog, 28, inTab [5, 24], inTab [], natTab [(5, 5), (21, 5)], inTab [], calTab [(66, .full (mkFun ks66 rs66 (F66 N)))], altTab [], loopTab [(3, ⟨⟨.normal, [0, 3, 10, 11, 12], [.one .ref, .one .ref, .one .ref, .one (.int .i64), .one (.int .i64)], [], []⟩, [⟨(.exit 0), [3], [.one .ref], [], []⟩], L50_0 N⟩)], natTab [], inTab []⟩
theorem l50_0 (N : Nat) : ∀ A, (e50 N).lp (lid (loopAt Tryz.f50 0)) = some A → LoopOk (e50 N) N (loopAt Tryz.f50 0) A :=
  loopOk_of (A := ⟨⟨.normal, [0, 3, 10, 11, 12], [.one .ref, .one .ref, .one .ref, .one (.int .i64), .one (.int .i64)], [], []⟩, [⟨(.exit 0), [3], [.one .ref], [], []⟩], L50_0 N⟩) (by kernel_rfl) (fun _ => rfl) (fun _ _ => by kernel_rfl)
theorem fine50 (N : Nat) : Fine (e50 N) N 50 Tryz.f50 ks50 rs50 (F50 N) :=
  ⟨Tryz.func50, by kernel_rfl, by kernel_rfl, by kernel_rfl, loops_of ⟨l50_0 N, trivial⟩, by kernel_rfl, by kernel_rfl, fun _ => by kernel_rfl⟩
theorem good50 (N : Nat) : Go.L.Good (e50 N) := good_of ⟨gd66 N, trivial⟩
theorem gd50 (N : Nat) : CalOk Tryz.prog 50 (.full (mkFun ks50 rs50 (F50 N))) := mkFun_good (fine50 N) (good50 N)

/-! ### 394: node.actor] -/
def L394_0 (N : Nat) : Nat → Int × Int × H → Option (H)
 | 0, _ => none
 | n + 1, (x4, x5, h6) =>
 (if (decide (x5 < x4)) = true then (
 none)
 else (
 some h6))
def F394 (N : Nat) : V × Int × Int × V × H → Option (H)
 | (a0, a1, a2, a3, h) =>
 (L394_0 N N (a2, (IntKind.i64.wrap (a1 + 1)), h)).bind fun h7 =>
 some h7
abbrev ks394 : List SK := [.one .ref, .one (.int .i64), .one (.int .i64), .one .ref]
abbrev rs394 : List SK := []
def e394 (N : Nat) : Env := ⟨Tryz.prog, 53, inTab [], inTab [], natTab [], inTab [], calTab [], altTab [], loopTab [(1, ⟨⟨.normal, [2, 8], [.one (.int .i64), .one (.int .i64)], [], []⟩, [⟨(.exit 0), [], [], [], []⟩], L394_0 N⟩)], natTab [], inTab [2, 3, 4, 5, 6]⟩
theorem l394_0 (N : Nat) : ∀ A, (e394 N).lp (lid (loopAt Tryz.f394 0)) = some A → LoopOk (e394 N) N (loopAt Tryz.f394 0) A :=
  loopOk_of (A := ⟨⟨.normal, [2, 8], [.one (.int .i64), .one (.int .i64)], [], []⟩, [⟨(.exit 0), [], [], [], []⟩], L394_0 N⟩) (by kernel_rfl) (fun _ => rfl) (fun _ _ => by kernel_rfl)
theorem lv394_1 (N : Nat) : ∀ A, (e394 N).lp (lid (loopAt Tryz.f394 1)) = some A → LoopOk (e394 N) N (loopAt Tryz.f394 1) A := fun A h => by
 rw [show (e394 N).lp (lid (loopAt Tryz.f394 1)) = none by kernel_rfl] at h; cases h
theorem fine394 (N : Nat) : Fine (e394 N) N 394 Tryz.f394 ks394 rs394 (F394 N) :=
  ⟨Tryz.func394, by kernel_rfl, by kernel_rfl, by kernel_rfl, loops_of ⟨l394_0 N, ⟨lv394_1 N, trivial⟩⟩, by kernel_rfl, by kernel_rfl, fun _ => by kernel_rfl⟩
theorem good394 (N : Nat) : Go.L.Good (e394 N) := good_of trivial
theorem gdg394 (N : Nat) : CalOk Tryz.prog 394 (.gro (mkFun ks394 rs394 (F394 N))) := mkFun_groC (fine394 N) (good394 N) (by kernel_rfl)

/-! ### 319: node.actor] -/
def L319_0 (N : Nat) : Nat → V × Int × V × Int × Int × Int × H → Option (V × Int × V × Int × Int × H)
 | 0, _ => none
 | n + 1, (x8, x9, x10, x11, x12, x13, h14) =>
 (if (decide (x13 ≤ x9)) = true then (
 none)
 else (
 some (x8, x9, x10, x11, x12, h14)))
def L319_1 (N : Nat) : Nat → Int × Int × H → Option (H)
 | 0, _ => none
 | n + 1, (x25, x26, h27) =>
 (if (decide (x26 < x25)) = true then (
 none)
 else (
 some h27))
def F319 (N : Nat) : V × Int × V × H → Option (H)
 | (a0, a1, a2, h) =>
 (L319_0 N N (a0, a1, a2, 20, 0, 20, h)).bind fun (x15, x16, x17, x18, x19, h20) =>
 (F394 N (x15, x19, x16, x17, h20)).bind fun h21 =>
 (L319_1 N N (x16, x18, h21)).bind fun h28 =>
 some h28
abbrev ks319 : List SK := [.one .ref, .one (.int .i64), .one .ref]
abbrev rs319 : List SK := []
def e319 (N : Nat) : Env := ⟨Tryz.prog, 63, inTab [], inTab [], natTab [], inTab [], calTab [(394, .gro (mkFun ks394 rs394 (F394 N)))], altTab [], loopTab [(2, ⟨⟨.normal, [0, 1, 2, 6, 7, 8], [.one .ref, .one (.int .i64), .one .ref, .one (.int .i64), .one (.int .i64), .one (.int .i64)], [], []⟩, [⟨(.exit 0), [0, 1, 2, 6, 7], [.one .ref, .one (.int .i64), .one .ref, .one (.int .i64), .one (.int .i64)], [], []⟩], L319_0 N⟩), (7, ⟨⟨.normal, [1, 6], [.one (.int .i64), .one (.int .i64)], [], []⟩, [⟨(.exit 2), [], [], [], []⟩], L319_1 N⟩)], natTab [], inTab [3, 4, 5, 8, 9, 10, 11, 12, 13, 14, 15, 16]⟩
theorem l319_0 (N : Nat) : ∀ A, (e319 N).lp (lid (loopAt Tryz.f319 0)) = some A → LoopOk (e319 N) N (loopAt Tryz.f319 0) A :=
  loopOk_of (A := ⟨⟨.normal, [0, 1, 2, 6, 7, 8], [.one .ref, .one (.int .i64), .one .ref, .one (.int .i64), .one (.int .i64), .one (.int .i64)], [], []⟩, [⟨(.exit 0), [0, 1, 2, 6, 7], [.one .ref, .one (.int .i64), .one .ref, .one (.int .i64), .one (.int .i64)], [], []⟩], L319_0 N⟩) (by kernel_rfl) (fun _ => rfl) (fun _ _ => by kernel_rfl)
theorem l319_1 (N : Nat) : ∀ A, (e319 N).lp (lid (loopAt Tryz.f319 1)) = some A → LoopOk (e319 N) N (loopAt Tryz.f319 1) A :=
  loopOk_of (A := ⟨⟨.normal, [1, 6], [.one (.int .i64), .one (.int .i64)], [], []⟩, [⟨(.exit 2), [], [], [], []⟩], L319_1 N⟩) (by kernel_rfl) (fun _ => rfl) (fun _ _ => by kernel_rfl)
theorem lv319_2 (N : Nat) : ∀ A, (e319 N).lp (lid (loopAt Tryz.f319 2)) = some A → LoopOk (e319 N) N (loopAt Tryz.f319 2) A := fun A h => by
 rw [show (e319 N).lp (lid (loopAt Tryz.f319 2)) = none by kernel_rfl] at h; cases h
theorem fine319 (N : Nat) : Fine (e319 N) N 319 Tryz.f319 ks319 rs319 (F319 N) :=
  ⟨Tryz.func319, by kernel_rfl, by kernel_rfl, by kernel_rfl, loops_of ⟨l319_0 N, ⟨l319_1 N, ⟨lv319_2 N, trivial⟩⟩⟩, by kernel_rfl, by kernel_rfl, fun _ => by kernel_rfl⟩
theorem good319 (N : Nat) : Go.L.Good (e319 N) := good_of ⟨gdg394 N, trivial⟩
theorem gdg319 (N : Nat) : CalOk Tryz.prog 319 (.gro (mkFun ks319 rs319 (F319 N))) := mkFun_groC (fine319 N) (good319 N) (by kernel_rfl)

/-! ### 225: node.actor] -/
def F225 (N : Nat) : V × V × H → Option (H)
 | (a0, a1, h) =>
 (slen a0).bind fun n1 =>
 (F319 N (a0, n1, a1, h)).bind fun h2 =>
 some h2
abbrev ks225 : List SK := [.one .ref, .one .ref]
abbrev rs225 : List SK := []
def e225 (N : Nat) : Env := ⟨Tryz.prog, 9, inTab [], inTab [], natTab [], inTab [], calTab [(319, .gro (mkFun ks319 rs319 (F319 N)))], altTab [], loopTab [], natTab [], inTab []⟩
theorem fine225 (N : Nat) : Fine (e225 N) N 225 Tryz.f225 ks225 rs225 (F225 N) :=
  ⟨Tryz.func225, by kernel_rfl, by kernel_rfl, by kernel_rfl, loops_of trivial, by kernel_rfl, by kernel_rfl, fun _ => by kernel_rfl⟩
theorem good225 (N : Nat) : Go.L.Good (e225 N) := good_of ⟨gdg319 N, trivial⟩
theorem gdg225 (N : Nat) : CalOk Tryz.prog 225 (.gro (mkFun ks225 rs225 (F225 N))) := mkFun_groC (fine225 N) (good225 N) (by kernel_rfl)

/-! ### 227: api.Entry]).Len -/
def F227 (N : Nat) : V × H → Option (Int × H)
 | (a0, h) =>
 (F249 N (a0, h)).bind fun (x1, _) =>
 (if (!x1) = true then (
 none)
 else (
 (nck a0).bind fun _ =>
 ((rd h (padd a0 1) 0)).bind fun x2 =>
 (slen x2).bind fun n3 =>
 some (n3, h)))
abbrev ks227 : List SK := [.one .ref]
abbrev rs227 : List SK := [.one (.int .i64)]
def e227 (N : Nat) : Env := ⟨Tryz.prog, 11, inTab [], inTab [], natTab [], inTab [], calTab [(249, .ro (mkFun ks249 rs249 (F249 N)))], altTab [], loopTab [], natTab [], inTab [2]⟩
theorem fine227 (N : Nat) : Fine (e227 N) N 227 Tryz.f227 ks227 rs227 (F227 N) :=
  ⟨Tryz.func227, by kernel_rfl, by kernel_rfl, by kernel_rfl, loops_of trivial, by kernel_rfl, by kernel_rfl, fun _ => by kernel_rfl⟩
theorem good227 (N : Nat) : Go.L.Good (e227 N) := good_of ⟨gd249 N, trivial⟩
theorem gd227 (N : Nat) : CalOk Tryz.prog 227 (.ro (mkFun ks227 rs227 (F227 N))) := mkFun_ro (fine227 N) (good227 N) (by kernel_rfl)

/-! ### 118: core.Core).Empty -/
def L118_0 (N : Nat) : Nat → V × Int × H → Option (H)
 | 0, _ => none
 | n + 1, (x10, x11, h12) =>
 (if (decide (x11 < 3)) = true then (
 (F129 N (x10, h12)).bind fun (x13, _) =>
 (if x13 = true then (
 (nck x10).bind fun _ =>
 (aidx (padd x10 2) x11 3 1).bind fun q16 =>
 ((rd h12 (padd q16 0) 0)).bind fun x17 =>
 (F227 N (x17, h12)).bind fun (x18, _) =>
 some ((decide (x18 > 0)), h12))
 else (
 some (false, h12))).bind fun (b14, h15) =>
 (if b14 = true then (
 none)
 else (
 L118_0 N n (x10, (IntKind.i64.wrap (x11 + 1)), h15))))
 else (
 some h12))
def F118 (N : Nat) : V × H → Option (Bool × H)
 | (a0, h) =>
 (L118_0 N N (a0, 0, h)).bind fun h19 =>
 some (true, h19)
abbrev ks118 : List SK := [.one .ref]
abbrev rs118 : List SK := [.one .bool]
def e118 (N : Nat) : Env := ⟨Tryz.prog, 21, inTab [], inTab [], natTab [], inTab [], calTab [(129, .ro (mkFun ks129 rs129 (F129 N))), (227, .ro (mkFun ks227 rs227 (F227 N)))], altTab [], loopTab [(2, ⟨⟨.normal, [0, 4], [.one .ref, .one (.int .i64)], [], []⟩, [⟨(.exit 0), [], [], [], []⟩], L118_0 N⟩)], natTab [], inTab [5]⟩
theorem l118_0 (N : Nat) : ∀ A, (e118 N).lp (lid (loopAt Tryz.f118 0)) = some A → LoopOk (e118 N) N (loopAt Tryz.f118 0) A :=
  loopOk_of (A := ⟨⟨.normal, [0, 4], [.one .ref, .one (.int .i64)], [], []⟩, [⟨(.exit 0), [], [], [], []⟩], L118_0 N⟩) (by kernel_rfl) (fun _ => rfl) (fun _ _ => by kernel_rfl)
theorem fine118 (N : Nat) : Fine (e118 N) N 118 Tryz.f118 ks118 rs118 (F118 N) :=
  ⟨Tryz.func118, by kernel_rfl, by kernel_rfl, by kernel_rfl, loops_of ⟨l118_0 N, trivial⟩, by kernel_rfl, by kernel_rfl, fun _ => by kernel_rfl⟩
theorem good118 (N : Nat) : Go.L.Good (e118 N) := good_of ⟨gd129 N, ⟨gd227 N, trivial⟩⟩
theorem gd118 (N : Nat) : CalOk Tryz.prog 118 (.ro (mkFun ks118 rs118 (F118 N))) := mkFun_ro (fine118 N) (good118 N) (by kernel_rfl)

/-! ### 229: homes.Accounts).Room -/
def F229 (N : Nat) : V × Int × H → Option (List V × H)
 | (a0, a1, h) =>
 (F209 N (a0, a1, 0, h)).bind fun (x1, _) =>
 (if (!x1) = true then (
 none)
 else (
 (nck a0).bind fun _ =>
 (aidx (padd a0 1) a1 16 3).bind fun q2 =>
 (rdN h q2 3).bind fun cs3 =>
 (aggEq Tryz.prog 344 cs3 [(.int .i64 0), (.int .i64 0), (.int .i64 0)]).bind fun b4 =>
 (if b4 = true then (
 some ([(.int .i64 64), (.int .i64 64), (.int .i64 64)], h))
 else (
 none))))
abbrev ks229 : List SK := [.one .ref, .one (.int .i64)]
abbrev rs229 : List SK := [.blk]
def e229 (N : Nat) : Env := ⟨Tryz.prog, 37, inTab [4, 5], inTab [], natTab [(4, 4), (5, 5), (34, 5)], inTab [], calTab [(209, .ro (mkFun ks209 rs209 (F209 N)))], altTab [], loopTab [], natTab [], inTab [3, 6, 7, 8, 9, 10, 11]⟩
theorem lv229_0 (N : Nat) : ∀ A, (e229 N).lp (lid (loopAt Tryz.f229 0)) = some A → LoopOk (e229 N) N (loopAt Tryz.f229 0) A := fun A h => by
 rw [show (e229 N).lp (lid (loopAt Tryz.f229 0)) = none by kernel_rfl] at h; cases h
theorem fine229 (N : Nat) : Fine (e229 N) N 229 Tryz.f229 ks229 rs229 (F229 N) :=
  ⟨Tryz.func229, by kernel_rfl, by kernel_rfl, by kernel_rfl, loops_of ⟨lv229_0 N, trivial⟩, by kernel_rfl, by kernel_rfl, fun _ => by kernel_rfl⟩
theorem good229 (N : Nat) : Go.L.Good (e229 N) := good_of ⟨gd209 N, trivial⟩
theorem gd229 (N : Nat) : CalOk Tryz.prog 229 (.ro (mkFun ks229 rs229 (F229 N))) := mkFun_ro (fine229 N) (good229 N) (by kernel_rfl)

/-! ### 47: slices.Clone[[]int,int] -/
def F47 (N : Nat) : V × H → Option (V × H)
 | (a0, h) =>
 (isNilS a0).bind fun b1 =>
 (if b1 = true then (
 some (.nils, h))
 else (
 (some (h ++ [O.cells 0 []]) : Option H).bind fun h2 =>
 (scells h2 a0 1).bind fun cs5 =>
 (happ h2 (.sl (h).length 0 0 0 1 (some 0)) 1 (snlen a0) cs5).bind fun (v3, h4) =>
 some (v3, h4)))
abbrev ks47 : List SK := [.one .ref]
abbrev rs47 : List SK := [.one .ref]
def e47 (N : Nat) : Env := ⟨Tryz.prog, 8, inTab [], inTab [], natTab [], inTab [], calTab [], altTab [], loopTab [], natTab [], inTab []⟩
theorem fine47 (N : Nat) : Fine (e47 N) N 47 Tryz.f47 ks47 rs47 (F47 N) :=
  ⟨Tryz.func47, by kernel_rfl, by kernel_rfl, by kernel_rfl, loops_of trivial, by kernel_rfl, by kernel_rfl, fun _ => by kernel_rfl⟩
theorem good47 (N : Nat) : Go.L.Good (e47 N) := good_of trivial
theorem gd47 (N : Nat) : CalOk Tryz.prog 47 (.full (mkFun ks47 rs47 (F47 N))) := mkFun_good (fine47 N) (good47 N)
theorem gl47 (N : Nat) : CalOk Tryz.prog 47 (.gro (mkFun ks47 rs47 (locF true ks47 rs47 (F47 N)))) := loc_gro (gd47 N)

/-! ### 396: api.Entry]).Copy -/
def F396 (N : Nat) : V × H → Option (V × H)
 | (a0, h) =>
 (F249 N (a0, h)).bind fun (x1, _) =>
 (if (!x1) = true then (
 none)
 else (
 (nck a0).bind fun _ =>
 (L.asInt .i64 (rd h (padd a0 0) 0)).bind fun x2 =>
 (nck a0).bind fun _ =>
 ((rd h (padd a0 1) 0)).bind fun x3 =>
 Option.bind (α := (V × H)) (locF true ks250 rs250 (F250 N) ((x3, h) : V × H)) fun (x4, h5) =>
 (ck1 x4).bind fun _ =>
 (some (h5 ++ [O.cells 0 [(.int .i64 x2), x4]]) : Option H).bind fun h6 =>
 some ((.ptr (h5).length 0 0), h6)))
abbrev ks396 : List SK := [.one .ref]
abbrev rs396 : List SK := [.one .ref]
def e396 (N : Nat) : Env := ⟨Tryz.prog, 17, inTab [], inTab [], natTab [], inTab [], calTab [(249, .ro (mkFun ks249 rs249 (F249 N))), (250, .gro (mkFun ks250 rs250 (locF true ks250 rs250 (F250 N))))], altTab [], loopTab [], natTab [], inTab [2]⟩
theorem fine396 (N : Nat) : Fine (e396 N) N 396 Tryz.f396 ks396 rs396 (F396 N) :=
  ⟨Tryz.func396, by kernel_rfl, by kernel_rfl, by kernel_rfl, loops_of trivial, by kernel_rfl, by kernel_rfl, fun _ => by kernel_rfl⟩
theorem good396 (N : Nat) : Go.L.Good (e396 N) := good_of ⟨gd249 N, ⟨gl250 N, trivial⟩⟩
theorem gdg396 (N : Nat) : CalOk Tryz.prog 396 (.gro (mkFun ks396 rs396 (F396 N))) := mkFun_groC (fine396 N) (good396 N) (by kernel_rfl)

/-! ### 320: core.Core).Copy -/
def L320_0 (N : Nat) : Nat → V × V × Int × H → Option (V × H)
 | 0, _ => none
 | n + 1, (x17, x18, x19, h20) =>
 (if (decide (x19 < 3)) = true then (
 (nck x17).bind fun _ =>
 (aidx (padd x17 2) x19 3 1).bind fun q21 =>
 ((rd h20 (padd q21 0) 0)).bind fun x22 =>
 (F396 N (x22, h20)).bind fun (x23, h24) =>
 (ck1 x23).bind fun _ =>
 (nck x18).bind fun _ =>
 (aidx (padd x18 2) x19 3 1).bind fun q25 =>
 (wr h24 q25 [x23]).bind fun h26 =>
 L320_0 N n (x17, x18, (IntKind.i64.wrap (x19 + 1)), h26))
 else (
 some (x18, h20)))
def F320 (N : Nat) : V × H → Option (V × H)
 | (a0, h) =>
 (F129 N (a0, h)).bind fun (x1, _) =>
 (if (!x1) = true then (
 none)
 else (
 (nck a0).bind fun _ =>
 ((rd h (padd a0 0) 0)).bind fun x2 =>
 (nck a0).bind fun _ =>
 (L.asInt .i64 (rd h (padd a0 1) 0)).bind fun x3 =>
 Option.bind (α := (V × H)) (locF true ks47 rs47 (F47 N) ((x2, h) : V × H)) fun (x4, h5) =>
 (ck1 x4).bind fun _ =>
 (some (h5 ++ [O.cells 0 [x4, (.int .i64 x3), .nilp, .nilp, .nilp]]) : Option H).bind fun h6 =>
 (L320_0 N N (a0, (.ptr (h5).length 0 0), 0, h6)).bind fun (x27, h28) =>
 some (x27, h28)))
abbrev ks320 : List SK := [.one .ref]
abbrev rs320 : List SK := [.one .ref]
def e320 (N : Nat) : Env := ⟨Tryz.prog, 38, inTab [], inTab [], natTab [], inTab [], calTab [(129, .ro (mkFun ks129 rs129 (F129 N))), (47, .gro (mkFun ks47 rs47 (locF true ks47 rs47 (F47 N)))), (396, .gro (mkFun ks396 rs396 (F396 N)))], altTab [], loopTab [(5, ⟨⟨.normal, [0, 3, 19], [.one .ref, .one .ref, .one (.int .i64)], [], []⟩, [⟨(.exit 0), [3], [.one .ref], [], []⟩], L320_0 N⟩)], natTab [], inTab [2]⟩
theorem l320_0 (N : Nat) : ∀ A, (e320 N).lp (lid (loopAt Tryz.f320 0)) = some A → LoopOk (e320 N) N (loopAt Tryz.f320 0) A :=
  loopOk_of (A := ⟨⟨.normal, [0, 3, 19], [.one .ref, .one .ref, .one (.int .i64)], [], []⟩, [⟨(.exit 0), [3], [.one .ref], [], []⟩], L320_0 N⟩) (by kernel_rfl) (fun _ => rfl) (fun _ _ => by kernel_rfl)
theorem fine320 (N : Nat) : Fine (e320 N) N 320 Tryz.f320 ks320 rs320 (F320 N) :=
  ⟨Tryz.func320, by kernel_rfl, by kernel_rfl, by kernel_rfl, loops_of ⟨l320_0 N, trivial⟩, by kernel_rfl, by kernel_rfl, fun _ => by kernel_rfl⟩
theorem good320 (N : Nat) : Go.L.Good (e320 N) := good_of ⟨gd129 N, ⟨gl47 N, ⟨gdg396 N, trivial⟩⟩⟩
theorem gd320 (N : Nat) : CalOk Tryz.prog 320 (.full (mkFun ks320 rs320 (F320 N))) := mkFun_good (fine320 N) (good320 N)

/-! ### 53: core.Core).Queue -/
def F53 (N : Nat) : V × Int × H → Option (V × H)
 | (a0, a1, h) =>
 (F129 N (a0, h)).bind fun (x1, _) =>
 (if (!x1) = true then (
 some (true, h))
 else (
 (F130 100 (a1, [])).bind fun (x4, _) =>
 some ((!x4), h))).bind fun (b2, h3) =>
 (if b2 = true then (
 none)
 else (
 (nck a0).bind fun _ =>
 (aidx (padd a0 2) a1 3 1).bind fun q5 =>
 ((rd h3 (padd q5 0) 0)).bind fun x6 =>
 (F131 N (x6, h3)).bind fun (x7, h8) =>
 some (x7, h8)))
abbrev ks53 : List SK := [.one .ref, .one (.int .i64)]
abbrev rs53 : List SK := [.one .ref]
def e53 (N : Nat) : Env := ⟨Tryz.prog, 21, inTab [], inTab [], natTab [], inTab [], calTab [(129, .ro (mkFun ks129 rs129 (F129 N))), (130, .pure (mkP ks130 rs130 (F130 100))), (131, .gro (mkFun ks131 rs131 (F131 N)))], altTab [], loopTab [], natTab [], inTab [2]⟩
theorem fine53 (N : Nat) : Fine (e53 N) N 53 Tryz.f53 ks53 rs53 (F53 N) :=
  ⟨Tryz.func53, by kernel_rfl, by kernel_rfl, by kernel_rfl, loops_of trivial, by kernel_rfl, by kernel_rfl, fun _ => by kernel_rfl⟩
theorem good53 (N : Nat) : Go.L.Good (e53 N) := good_of ⟨gd129 N, ⟨gd130, ⟨gdg131 N, trivial⟩⟩⟩
theorem gdg53 (N : Nat) : CalOk Tryz.prog 53 (.gro (mkFun ks53 rs53 (F53 N))) := mkFun_groC (fine53 N) (good53 N) (by kernel_rfl)

/-! ### 463: steal.free -/
def L463_0 (N : Nat) : Nat → V × Int × Int × H → Option (Int × H)
 | 0, _ => none
 | n + 1, (x10, x11, x12, h13) =>
 (if (decide (x12 ≥ 0)) = true then (
 (sidx x10 x12 3).bind fun q16 =>
 (L.asBool (rd h13 (padd q16 2) 0)).bind fun x17 =>
 some ((!x17), h13))
 else (
 some (false, h13))).bind fun (b14, h15) =>
 (if b14 = true then (
 L463_0 N n (x10, (IntKind.i64.wrap (x11 + 1)), (IntKind.i64.wrap (x12 - 1)), h15))
 else (
 some (x11, h15)))
def F463 (N : Nat) : V × H → Option (Int × H)
 | (a0, h) =>
 (slen a0).bind fun n1 =>
 (L463_0 N N (a0, 0, (IntKind.i64.wrap (n1 - 1)), h)).bind fun (x18, h19) =>
 some (x18, h19)
abbrev ks463 : List SK := [.one .ref]
abbrev rs463 : List SK := [.one (.int .i64)]
def e463 (N : Nat) : Env := ⟨Tryz.prog, 23, inTab [], inTab [], natTab [], inTab [], calTab [], altTab [], loopTab [(3, ⟨⟨.normal, [0, 3, 4], [.one .ref, .one (.int .i64), .one (.int .i64)], [], []⟩, [⟨(.exit 0), [3], [.one (.int .i64)], [], []⟩], L463_0 N⟩)], natTab [], inTab []⟩
theorem l463_0 (N : Nat) : ∀ A, (e463 N).lp (lid (loopAt Tryz.f463 0)) = some A → LoopOk (e463 N) N (loopAt Tryz.f463 0) A :=
  loopOk_of (A := ⟨⟨.normal, [0, 3, 4], [.one .ref, .one (.int .i64), .one (.int .i64)], [], []⟩, [⟨(.exit 0), [3], [.one (.int .i64)], [], []⟩], L463_0 N⟩) (by kernel_rfl) (fun _ => rfl) (fun _ _ => by kernel_rfl)
theorem fine463 (N : Nat) : Fine (e463 N) N 463 Tryz.f463 ks463 rs463 (F463 N) :=
  ⟨Tryz.func463, by kernel_rfl, by kernel_rfl, by kernel_rfl, loops_of ⟨l463_0 N, trivial⟩, by kernel_rfl, by kernel_rfl, fun _ => by kernel_rfl⟩
theorem good463 (N : Nat) : Go.L.Good (e463 N) := good_of trivial
theorem gd463 (N : Nat) : CalOk Tryz.prog 463 (.ro (mkFun ks463 rs463 (F463 N))) := mkFun_ro (fine463 N) (good463 N) (by kernel_rfl)

/-! ### 397: steal.Half -/
def F397 (N : Nat) : V × H → Option (Int × H)
 | (a0, h) =>
 (F463 N (a0, h)).bind fun (x1, _) =>
 some ((IntKind.i64.wrap ((IntKind.i64.wrap (Int.tdiv x1 2)) + (Int.tmod x1 2))), h)
abbrev ks397 : List SK := [.one .ref]
abbrev rs397 : List SK := [.one (.int .i64)]
def e397 (N : Nat) : Env := ⟨Tryz.prog, 11, inTab [], inTab [], natTab [], inTab [], calTab [(463, .ro (mkFun ks463 rs463 (F463 N)))], altTab [], loopTab [], natTab [], inTab []⟩
theorem fine397 (N : Nat) : Fine (e397 N) N 397 Tryz.f397 ks397 rs397 (F397 N) :=
  ⟨Tryz.func397, by kernel_rfl, by kernel_rfl, by kernel_rfl, loops_of trivial, by kernel_rfl, by kernel_rfl, fun _ => by kernel_rfl⟩
theorem good397 (N : Nat) : Go.L.Good (e397 N) := good_of ⟨gd463 N, trivial⟩
theorem gd397 (N : Nat) : CalOk Tryz.prog 397 (.ro (mkFun ks397 rs397 (F397 N))) := mkFun_ro (fine397 N) (good397 N) (by kernel_rfl)

/-! ### 321: steal.Plan -/
def L321_0 (N : Nat) : Nat → List V × Int × List V × List V × H → Option (List V × List V × H)
 | 0, _ => none
 | n + 1, (cs8, x9, cs10, cs11, h12) =>
 (if (decide (x9 < 3)) = true then (
 (if 0 ≤ x9 then (if x9 < 3 then (
 (L.asInt .i64 (cs8)[Int.toNat x9 * 1]?).bind fun x13 =>
 (if (decide (x13 < 0)) = true then (
 none)
 else (
 L321_0 N n (cs8, (IntKind.i64.wrap (x9 + 1)), cs10, cs11, h12)))) else none) else none))
 else (
 some (cs10, cs11, h12)))
def L321_1 (N : Nat) : Nat → Int × List V × List V × H → Option ((H) ⊕ (Int × Int × Int × H))
 | 0, _ => none
 | n + 1, (x24, cs25, cs26, h27) =>
 (if (decide (x24 < 3)) = true then (
 (if 0 ≤ x24 then (if x24 < 3 then (
 (cs25[((0 + Int.toNat x24 * 1) + 0)]?).bind fun x28 =>
 (F397 N (x28, h27)).bind fun (x29, _) =>
 (if 0 ≤ x24 then (if x24 < 3 then (
 (L.asInt .i64 cs26[((0 + Int.toNat x24 * 1) + 0)]?).bind fun x30 =>
 (if (decide ((if x30 < x29 then x30 else x29) > 0)) = true then (
 some (.inr (x24, (if x30 < x29 then x30 else x29), 0, h27)))
 else (
 L321_1 N n ((IntKind.i64.wrap (x24 + 1)), cs25, cs26, h27)))) else none) else none)) else none) else none))
 else (
 some (.inl h27)))
def F321 (N : Nat) : List V × List V × H → Option (Int × Int × Int × H)
 | (a0, a1, h) =>
 (if (a0).length = 3 then (
 (if (a1).length = 3 then (
 ((if 0 + 3 ≤ (a1).length then some (((a1).drop 0).take 3) else none) : Option (List V)).bind fun cs1 =>
 (L321_0 N N (cs1, 0, a0, a1, h)).bind fun (cs14, cs15, h16) =>
 (L321_1 N N (0, cs14, cs15, h16)).bind fun o31 => match o31 with
 | .inl h32 => (
 none)
 | .inr (x33, x34, x35, h36) => (
 some (x33, x34, x35, h36))) else none)) else none)
abbrev ks321 : List SK := [.blk, .blk]
abbrev rs321 : List SK := [.one (.int .i64), .one (.int .i64), .one (.int .i64)]
def e321 (N : Nat) : Env := ⟨Tryz.prog, 34, inTab [2, 3], inTab [], natTab [(2, 2), (3, 3), (22, 2), (26, 3)], inTab [], calTab [(397, .ro (mkFun ks397 rs397 (F397 N)))], altTab [], loopTab [(2, ⟨⟨.normal, [2, 3, 11, 12], [.lp 2 0, .lp 3 0, .blk, .one (.int .i64)], [2, 3], [.blk, .blk]⟩, [⟨(.exit 0), [2, 3], [.lp 2 0, .lp 3 0], [2, 3], [.blk, .blk]⟩], L321_0 N⟩), (8, ⟨⟨.normal, [2, 3, 18], [.lp 2 0, .lp 3 0, .one (.int .i64)], [2, 3], [.blk, .blk]⟩, [⟨(.exit 2), [], [], [], []⟩, ⟨.ret, [4, 5, 6], [.one (.int .i64), .one (.int .i64), .one (.int .i64)], [], []⟩], L321_1 N⟩)], natTab [], inTab [5, 14]⟩
theorem l321_0 (N : Nat) : ∀ A, (e321 N).lp (lid (loopAt Tryz.f321 0)) = some A → LoopOk (e321 N) N (loopAt Tryz.f321 0) A :=
  loopOk_of (A := ⟨⟨.normal, [2, 3, 11, 12], [.lp 2 0, .lp 3 0, .blk, .one (.int .i64)], [2, 3], [.blk, .blk]⟩, [⟨(.exit 0), [2, 3], [.lp 2 0, .lp 3 0], [2, 3], [.blk, .blk]⟩], L321_0 N⟩) (by kernel_rfl) (fun _ => rfl) (fun _ _ => by kernel_rfl)
theorem l321_1 (N : Nat) : ∀ A, (e321 N).lp (lid (loopAt Tryz.f321 1)) = some A → LoopOk (e321 N) N (loopAt Tryz.f321 1) A :=
  loopOk_of (A := ⟨⟨.normal, [2, 3, 18], [.lp 2 0, .lp 3 0, .one (.int .i64)], [2, 3], [.blk, .blk]⟩, [⟨(.exit 2), [], [], [], []⟩, ⟨.ret, [4, 5, 6], [.one (.int .i64), .one (.int .i64), .one (.int .i64)], [], []⟩], L321_1 N⟩) (by kernel_rfl) (fun _ => rfl) (fun _ _ => by kernel_rfl)
theorem fine321 (N : Nat) : Fine (e321 N) N 321 Tryz.f321 ks321 rs321 (F321 N) :=
  ⟨Tryz.func321, by kernel_rfl, by kernel_rfl, by kernel_rfl, loops_of ⟨l321_0 N, ⟨l321_1 N, trivial⟩⟩, by kernel_rfl, by kernel_rfl, fun _ => by kernel_rfl⟩
theorem good321 (N : Nat) : Go.L.Good (e321 N) := good_of ⟨gd397 N, trivial⟩
theorem gd321 (N : Nat) : CalOk Tryz.prog 321 (.ro (mkFun ks321 rs321 (F321 N))) := mkFun_ro (fine321 N) (good321 N) (by kernel_rfl)

/-! ### 398: api.Entry]).Cut -/
def F398 (N : Nat) : V × Int × H → Option (V × Int × H)
 | (a0, a1, h) =>
 (F249 N (a0, h)).bind fun (x1, _) =>
 (if (!x1) = true then (
 some (true, h))
 else (
 some ((decide (a1 < 0)), h))).bind fun (b2, h3) =>
 (if b2 = true then (
 none)
 else (
 (nck a0).bind fun _ =>
 ((rd h3 (padd a0 1) 0)).bind fun x4 =>
 (slen x4).bind fun n5 =>
 (if (decide ((IntKind.i64.wrap (n5 - a1)) < 0)) = true then (
 none)
 else (
 (nck a0).bind fun _ =>
 ((rd h3 (padd a0 1) 0)).bind fun x6 =>
 (slen x6).bind fun n7 =>
 (ssl 3 x6 (IntKind.i64.wrap (n5 - a1)) n7).bind fun v8 =>
 Option.bind (α := (V × H)) (locF true ks250 rs250 (F250 N) ((v8, h3) : V × H)) fun (x9, h10) =>
 (nck a0).bind fun _ =>
 ((rd h10 (padd a0 1) 0)).bind fun x11 =>
 (slen x11).bind fun n12 =>
 (ssl3 3 x11 0 (IntKind.i64.wrap (n5 - a1)) (IntKind.i64.wrap (n5 - a1))).bind fun v13 =>
 (nck a0).bind fun _ =>
 (ck1 v13).bind fun _ =>
 (wr h10 (padd a0 1) [v13]).bind fun h14 =>
 some (x9, 0, h14)))))
abbrev ks398 : List SK := [.one .ref, .one (.int .i64)]
abbrev rs398 : List SK := [.one .ref, .one (.int .i64)]
def e398 (N : Nat) : Env := ⟨Tryz.prog, 42, inTab [], inTab [], natTab [], inTab [], calTab [(249, .ro (mkFun ks249 rs249 (F249 N))), (250, .gro (mkFun ks250 rs250 (locF true ks250 rs250 (F250 N))))], altTab [], loopTab [], natTab [], inTab [2, 5]⟩
theorem fine398 (N : Nat) : Fine (e398 N) N 398 Tryz.f398 ks398 rs398 (F398 N) :=
  ⟨Tryz.func398, by kernel_rfl, by kernel_rfl, by kernel_rfl, loops_of trivial, by kernel_rfl, by kernel_rfl, fun _ => by kernel_rfl⟩
theorem good398 (N : Nat) : Go.L.Good (e398 N) := good_of ⟨gd249 N, ⟨gl250 N, trivial⟩⟩
theorem gd398 (N : Nat) : CalOk Tryz.prog 398 (.full (mkFun ks398 rs398 (F398 N))) := mkFun_good (fine398 N) (good398 N)

/-! ### 322: core.Core).Cut -/
def F322 (N : Nat) : V × Int × Int × H → Option (V × Int × H)
 | (a0, a1, a2, h) =>
 (F129 N (a0, h)).bind fun (x1, _) =>
 (if (!x1) = true then (
 some (true, h))
 else (
 (F130 100 (a1, [])).bind fun (x4, _) =>
 some ((!x4), h))).bind fun (b2, h3) =>
 (if b2 = true then (
 none)
 else (
 (nck a0).bind fun _ =>
 (aidx (padd a0 2) a1 3 1).bind fun q5 =>
 ((rd h3 (padd q5 0) 0)).bind fun x6 =>
 (F398 N (x6, a2, h3)).bind fun (x7, x8, h9) =>
 some (x7, x8, h9)))
abbrev ks322 : List SK := [.one .ref, .one (.int .i64), .one (.int .i64)]
abbrev rs322 : List SK := [.one .ref, .one (.int .i64)]
def e322 (N : Nat) : Env := ⟨Tryz.prog, 27, inTab [], inTab [], natTab [], inTab [], calTab [(129, .ro (mkFun ks129 rs129 (F129 N))), (130, .pure (mkP ks130 rs130 (F130 100))), (398, .full (mkFun ks398 rs398 (F398 N)))], altTab [], loopTab [], natTab [], inTab [2]⟩
theorem fine322 (N : Nat) : Fine (e322 N) N 322 Tryz.f322 ks322 rs322 (F322 N) :=
  ⟨Tryz.func322, by kernel_rfl, by kernel_rfl, by kernel_rfl, loops_of trivial, by kernel_rfl, by kernel_rfl, fun _ => by kernel_rfl⟩
theorem good322 (N : Nat) : Go.L.Good (e322 N) := good_of ⟨gd129 N, ⟨gd130, ⟨gd398 N, trivial⟩⟩⟩
theorem gd322 (N : Nat) : CalOk Tryz.prog 322 (.full (mkFun ks322 rs322 (F322 N))) := mkFun_good (fine322 N) (good322 N)

/-! ### 323: core.Core).Join -/
def L323_0 (N : Nat) : Nat → V × Int × V × V × V × Int × Int × H → Option (V × Int × V × H)
 | 0, _ => none
 | n + 1, (x36, x37, x38, x39, x40, x41, x42, h43) =>
 (if (decide (x42 < x41)) = true then (
 (sidx x40 x42 3).bind fun q44 =>
 (L.asInt .i64 (rd h43 q44 0)).bind fun x45 =>
 (L.asInt .i64 (rd h43 q44 1)).bind fun x46 =>
 (L.asBool (rd h43 q44 2)).bind fun x47 =>
 (hmap h43 x39).bind fun es48 =>
 (mlook (.agg [(.int .i64 x45), (.int .i64 x46)]) es48).bind fun q49 =>
 (L.asInt .i64 (some (Option.getD q49 (.int .i64 0)))).bind fun x50 =>
 (hentry h43 x39 (.agg [(.int .i64 x45), (.int .i64 x46)]) (.int .i64 0)).bind fun (v51, n52, h53) =>
 (L.asInt .i64 (some v51)).bind fun x54 =>
 (hestore h53 x39 n52 (.int .i64 (IntKind.i64.wrap (x50 + 1)))).bind fun h55 =>
 (hmap h55 x39).bind fun es56 =>
 (mlook (.agg [(.int .i64 x45), (.int .i64 x46)]) es56).bind fun q57 =>
 (L.asInt .i64 (some (Option.getD q57 (.int .i64 0)))).bind fun x58 =>
 (if (decide (x58 > 1)) = true then (
 some (true, h55))
 else (
 (F264 N (x36, x45, x46, h55)).bind fun (x61, h62) =>
 some (x61, h62))).bind fun (b59, h60) =>
 (if b59 = true then (
 none)
 else (
 (happ h60 x38 3 1 [(.int .i64 x45), (.int .i64 x46), (.bool true)]).bind fun (v63, h64) =>
 L323_0 N n (x36, x37, v63, x39, x40, x41, (IntKind.i64.wrap (x42 + 1)), h64))))
 else (
 some (x36, x37, x38, h43)))
def F323 (N : Nat) : V × Int × V × H → Option (Int × H)
 | (a0, a1, a2, h) =>
 (F129 N (a0, h)).bind fun (x1, _) =>
 (if (!x1) = true then (
 some (true, h))
 else (
 (F130 100 (a1, [])).bind fun (x4, _) =>
 some ((!x4), h))).bind fun (b2, h3) =>
 (if b2 = true then (
 none)
 else (
 (some (h3 ++ [O.map 0 [] []]) : Option H).bind fun h5 =>
 (slen a2).bind fun n6 =>
 (L323_0 N N (a0, a1, .nils, (.map (h3).length), a2, n6, 0, h5)).bind fun (x65, x66, x67, h68) =>
 (nck x65).bind fun _ =>
 (aidx (padd x65 2) x66 3 1).bind fun q69 =>
 ((rd h68 (padd q69 0) 0)).bind fun x70 =>
 (F358 N (x70, x67, h68)).bind fun (x71, h72) =>
 some (x71, h72)))
abbrev ks323 : List SK := [.one .ref, .one (.int .i64), .one .ref]
abbrev rs323 : List SK := [.one (.int .i64)]
def e323 (N : Nat) : Env := ⟨Tryz.prog, 60, inTab [10, 48], inTab [], natTab [(10, 10), (27, 10), (34, 10), (40, 10), (45, 10)], inTab [], calTab [(129, .ro (mkFun ks129 rs129 (F129 N))), (130, .pure (mkP ks130 rs130 (F130 100))), (264, .full (mkFun ks264 rs264 (F264 N))), (358, .full (mkFun ks358 rs358 (F358 N)))], altTab [], loopTab [(6, ⟨⟨.normal, [0, 1, 7, 8, 20, 21, 22], [.one .ref, .one (.int .i64), .one .ref, .one .ref, .one .ref, .one (.int .i64), .one (.int .i64)], [], []⟩, [⟨(.exit 0), [0, 1, 7], [.one .ref, .one (.int .i64), .one .ref], [], []⟩], L323_0 N⟩)], natTab [], inTab [2, 10]⟩
theorem l323_0 (N : Nat) : ∀ A, (e323 N).lp (lid (loopAt Tryz.f323 0)) = some A → LoopOk (e323 N) N (loopAt Tryz.f323 0) A :=
  loopOk_of (A := ⟨⟨.normal, [0, 1, 7, 8, 20, 21, 22], [.one .ref, .one (.int .i64), .one .ref, .one .ref, .one .ref, .one (.int .i64), .one (.int .i64)], [], []⟩, [⟨(.exit 0), [0, 1, 7], [.one .ref, .one (.int .i64), .one .ref], [], []⟩], L323_0 N⟩) (by kernel_rfl) (fun _ => rfl) (fun _ _ => by kernel_rfl)
theorem fine323 (N : Nat) : Fine (e323 N) N 323 Tryz.f323 ks323 rs323 (F323 N) :=
  ⟨Tryz.func323, by kernel_rfl, by kernel_rfl, by kernel_rfl, loops_of ⟨l323_0 N, trivial⟩, by kernel_rfl, by kernel_rfl, fun _ => by kernel_rfl⟩
theorem good323 (N : Nat) : Go.L.Good (e323 N) := good_of ⟨gd129 N, ⟨gd130, ⟨gd264 N, ⟨gd358 N, trivial⟩⟩⟩⟩
theorem gd323 (N : Nat) : CalOk Tryz.prog 323 (.full (mkFun ks323 rs323 (F323 N))) := mkFun_good (fine323 N) (good323 N)

/-! ### 228: steal.Do -/
def L228_0 (N : Nat) : Nat → V × V × List V × Int × List V × H → Option (V × V × List V × H)
 | 0, _ => none
 | n + 1, (x20, x21, cs22, x23, cs24, h25) =>
 (if (decide (x23 < 3)) = true then (
 (if 0 ≤ x23 then (if x23 < 3 then (
 (L.asInt .i64 (cs22)[Int.toNat x23 * 1]?).bind fun x26 =>
 (if (decide (x26 < 0)) = true then (
 none)
 else (
 L228_0 N n (x20, x21, cs22, (IntKind.i64.wrap (x23 + 1)), cs24, h25)))) else none) else none))
 else (
 some (x20, x21, cs24, h25)))
def L228_1 (N : Nat) : Nat → V × V × Int × List V × List V × H → Option (V × V × List V × List V × H)
 | 0, _ => none
 | n + 1, (x40, x41, x42, cs43, cs44, h45) =>
 (if (decide (x42 < 3)) = true then (
 (F53 N (x41, x42, h45)).bind fun (x46, h47) =>
 (if 0 ≤ x42 then (if x42 < 3 then (
 (ck1 x46).bind fun _ =>
 (if (0 + Int.toNat x42 * 1) + 1 ≤ (cs44).length then (
 L228_1 N n (x40, x41, (IntKind.i64.wrap (x42 + 1)), cs43, (splice cs44 (0 + Int.toNat x42 * 1) [x46]), h47)) else none)) else none) else none))
 else (
 some (x40, x41, cs43, cs44, h45)))
def F228 (N : Nat) : V × V × List V × H → Option (Int × V × Int × H)
 | (a0, a1, a2, h) =>
 (if (a2).length = 3 then (
 (F320 N (a0, h)).bind fun (x1, h2) =>
 (isNil x1).bind fun b3 =>
 (if b3 = true then (
 some (true, h2))
 else (
 (F320 N (a1, h2)).bind fun (x6, h7) =>
 (isNil x6).bind fun b8 =>
 some (b8, h7))).bind fun (b4, h5) =>
 (if b4 = true then (
 some (true, h5))
 else (
 (ptrEq h5 a0 a1).bind fun b11 =>
 some (b11, h5))).bind fun (b9, h10) =>
 (if b9 = true then (
 none)
 else (
 ((if 0 + 3 ≤ (a2).length then some (((a2).drop 0).take 3) else none) : Option (List V)).bind fun cs12 =>
 (L228_0 N N (a0, a1, cs12, 0, a2, h10)).bind fun (x27, x28, cs29, h30) =>
 (F118 N (x27, h30)).bind fun (x31, _) =>
 (if (!x31) = true then (
 none)
 else (
 (L228_1 N N (x27, x28, 0, cs29, [.nils, .nils, .nils], h30)).bind fun (x48, x49, cs50, cs51, h52) =>
 ((if 0 + 3 ≤ (cs51).length then some (((cs51).drop 0).take 3) else none) : Option (List V)).bind fun cs53 =>
 ((if 0 + 3 ≤ (cs50).length then some (((cs50).drop 0).take 3) else none) : Option (List V)).bind fun cs54 =>
 (F321 N (cs53, cs54, h52)).bind fun (x55, x56, x57, _) =>
 (if (x57 != 0) = true then (
 none)
 else (
 (F322 N (x49, x55, x56, h52)).bind fun (x58, x59, h60) =>
 (if (x59 != 0) = true then (
 none)
 else (
 (F323 N (x48, x55, x58, h60)).bind fun (x61, h62) =>
 (if (x61 != 0) = true then (
 none)
 else (
 (F53 N (x48, x55, h62)).bind fun (x63, h64) =>
 some (x55, x63, 0, h64)))))))))))) else none)
abbrev ks228 : List SK := [.one .ref, .one .ref, .blk]
abbrev rs228 : List SK := [.one (.int .i64), .one .ref, .one (.int .i64)]
def e228 (N : Nat) : Env := ⟨Tryz.prog, 81, inTab [5, 11], inTab [], natTab [(5, 5), (11, 11), (44, 11)], inTab [], calTab [(320, .full (mkFun ks320 rs320 (F320 N))), (118, .ro (mkFun ks118 rs118 (F118 N))), (53, .gro (mkFun ks53 rs53 (F53 N))), (321, .ro (mkFun ks321 rs321 (F321 N))), (322, .full (mkFun ks322 rs322 (F322 N))), (323, .full (mkFun ks323 rs323 (F323 N)))], altTab [], loopTab [(4, ⟨⟨.normal, [0, 1, 5, 27, 28], [.one .ref, .one .ref, .lp 5 0, .blk, .one (.int .i64)], [5], [.blk]⟩, [⟨(.exit 0), [0, 1, 5], [.one .ref, .one .ref, .lp 5 0], [5], [.blk]⟩], L228_0 N⟩), (13, ⟨⟨.normal, [0, 1, 5, 11, 37], [.one .ref, .one .ref, .lp 5 0, .lp 11 0, .one (.int .i64)], [5, 11], [.blk, .blk]⟩, [⟨(.exit 2), [0, 1, 5, 11], [.one .ref, .one .ref, .lp 5 0, .lp 11 0], [5, 11], [.blk, .blk]⟩], L228_1 N⟩)], natTab [], inTab [2, 7, 10, 19, 22, 25, 26]⟩
theorem l228_0 (N : Nat) : ∀ A, (e228 N).lp (lid (loopAt Tryz.f228 0)) = some A → LoopOk (e228 N) N (loopAt Tryz.f228 0) A :=
  loopOk_of (A := ⟨⟨.normal, [0, 1, 5, 27, 28], [.one .ref, .one .ref, .lp 5 0, .blk, .one (.int .i64)], [5], [.blk]⟩, [⟨(.exit 0), [0, 1, 5], [.one .ref, .one .ref, .lp 5 0], [5], [.blk]⟩], L228_0 N⟩) (by kernel_rfl) (fun _ => rfl) (fun _ _ => by kernel_rfl)
theorem l228_1 (N : Nat) : ∀ A, (e228 N).lp (lid (loopAt Tryz.f228 1)) = some A → LoopOk (e228 N) N (loopAt Tryz.f228 1) A :=
  loopOk_of (A := ⟨⟨.normal, [0, 1, 5, 11, 37], [.one .ref, .one .ref, .lp 5 0, .lp 11 0, .one (.int .i64)], [5, 11], [.blk, .blk]⟩, [⟨(.exit 2), [0, 1, 5, 11], [.one .ref, .one .ref, .lp 5 0, .lp 11 0], [5, 11], [.blk, .blk]⟩], L228_1 N⟩) (by kernel_rfl) (fun _ => rfl) (fun _ _ => by kernel_rfl)
theorem fine228 (N : Nat) : Fine (e228 N) N 228 Tryz.f228 ks228 rs228 (F228 N) :=
  ⟨Tryz.func228, by kernel_rfl, by kernel_rfl, by kernel_rfl, loops_of ⟨l228_0 N, ⟨l228_1 N, trivial⟩⟩, by kernel_rfl, by kernel_rfl, fun _ => by kernel_rfl⟩
theorem good228 (N : Nat) : Go.L.Good (e228 N) := good_of ⟨gd320 N, ⟨gd118 N, ⟨gdg53 N, ⟨gd321 N, ⟨gd322 N, ⟨gd323 N, trivial⟩⟩⟩⟩⟩⟩
theorem gd228 (N : Nat) : CalOk Tryz.prog 228 (.full (mkFun ks228 rs228 (F228 N))) := mkFun_good (fine228 N) (good228 N)

/-! ### 230: homes.Accounts).Move -/
def F230 (N : Nat) : V × Int × Int × Int × Int × H → Option (Int × H)
 | (a0, a1, a2, a3, a4, h) =>
 (F209 N (a0, a1, a3, h)).bind fun (x1, _) =>
 (if (!x1) = true then (
 some (true, h))
 else (
 (F209 N (a0, a2, a3, h)).bind fun (x4, _) =>
 some ((!x4), h))).bind fun (b2, h3) =>
 (if b2 = true then (
 some (true, h3))
 else (
 some ((decide (a4 < 0)), h3))).bind fun (b5, h6) =>
 (if b5 = true then (
 none)
 else (
 (nck a0).bind fun _ =>
 (aidx (padd a0 1) a1 16 3).bind fun q7 =>
 (aidx q7 a3 3 1).bind fun q8 =>
 (L.asInt .i64 (rd h6 q8 0)).bind fun x9 =>
 (if (decide (x9 < a4)) = true then (
 none)
 else (
 (if (a1 == a2) = true then (
 none)
 else (
 (nck a0).bind fun _ =>
 (aidx (padd a0 1) a2 16 3).bind fun q10 =>
 (aidx q10 a3 3 1).bind fun q11 =>
 (L.asInt .i64 (rd h6 q11 0)).bind fun x12 =>
 (if (decide (a4 > (IntKind.i64.wrap (64 - x12)))) = true then (
 none)
 else (
 (nck a0).bind fun _ =>
 (aidx (padd a0 1) a1 16 3).bind fun q13 =>
 (aidx q13 a3 3 1).bind fun q14 =>
 (L.asInt .i64 (rd h6 q14 0)).bind fun x15 =>
 (nck a0).bind fun _ =>
 (aidx (padd a0 1) a1 16 3).bind fun q16 =>
 (aidx q16 a3 3 1).bind fun q17 =>
 (wr h6 q17 [(.int .i64 (IntKind.i64.wrap (x15 - a4)))]).bind fun h18 =>
 (nck a0).bind fun _ =>
 (aidx (padd a0 1) a2 16 3).bind fun q19 =>
 (aidx q19 a3 3 1).bind fun q20 =>
 (L.asInt .i64 (rd h18 q20 0)).bind fun x21 =>
 (nck a0).bind fun _ =>
 (aidx (padd a0 1) a2 16 3).bind fun q22 =>
 (aidx q22 a3 3 1).bind fun q23 =>
 (wr h18 q23 [(.int .i64 (IntKind.i64.wrap (x21 + a4)))]).bind fun h24 =>
 some (0, h24)))))))))
abbrev ks230 : List SK := [.one .ref, .one (.int .i64), .one (.int .i64), .one (.int .i64), .one (.int .i64)]
abbrev rs230 : List SK := [.one (.int .i64)]
def e230 (N : Nat) : Env := ⟨Tryz.prog, 79, inTab [], inTab [], natTab [], inTab [], calTab [(209, .ro (mkFun ks209 rs209 (F209 N)))], altTab [], loopTab [], natTab [], inTab [2, 4, 6, 8]⟩
theorem fine230 (N : Nat) : Fine (e230 N) N 230 Tryz.f230 ks230 rs230 (F230 N) :=
  ⟨Tryz.func230, by kernel_rfl, by kernel_rfl, by kernel_rfl, loops_of trivial, by kernel_rfl, by kernel_rfl, fun _ => by kernel_rfl⟩
theorem good230 (N : Nat) : Go.L.Good (e230 N) := good_of ⟨gd209 N, trivial⟩
theorem gd230 (N : Nat) : CalOk Tryz.prog 230 (.full (mkFun ks230 rs230 (F230 N))) := mkFun_good (fine230 N) (good230 N)

/-! ### 45: node.Node).find -/
def F45 (N : Nat) : V × Int × Int × H → Option (V × H)
 | (a0, a1_0, a1_1, h) =>
 (nck a0).bind fun _ =>
 ((rd h (padd a0 6) 0)).bind fun x1 =>
 (hmap h x1).bind fun es2 =>
 (mlook (.int .i64 a1_0) es2).bind fun q3 =>
 ((some (Option.getD q3 .nilp))).bind fun x4 =>
 (if (Option.isSome q3) = true then (
 (nck x4).bind fun _ =>
 (L.asInt .i64 (rd h (padd x4 0) 0)).bind fun x7 =>
 (L.asInt .i64 (rd h (padd x4 0) 1)).bind fun x8 =>
 some (((x7 == a1_0) && ((x8 == a1_1) && true)), h))
 else (
 some (false, h))).bind fun (b5, h6) =>
 (if b5 = true then (
 some (x4, h6))
 else (
 none))
abbrev ks45 : List SK := [.one .ref, .agg [(.int .i64), (.int .i64)]]
abbrev rs45 : List SK := [.one .ref]
def e45 (N : Nat) : Env := ⟨Tryz.prog, 27, inTab [3], inTab [], natTab [(3, 3), (12, 3)], inTab [], calTab [], altTab [], loopTab [], natTab [], inTab [4]⟩
theorem fine45 (N : Nat) : Fine (e45 N) N 45 Tryz.f45 ks45 rs45 (F45 N) :=
  ⟨Tryz.func45, by kernel_rfl, by kernel_rfl, by kernel_rfl, loops_of trivial, by kernel_rfl, by kernel_rfl, fun _ => by kernel_rfl⟩
theorem good45 (N : Nat) : Go.L.Good (e45 N) := good_of trivial
theorem gd45 (N : Nat) : CalOk Tryz.prog 45 (.ro (mkFun ks45 rs45 (F45 N))) := mkFun_ro (fine45 N) (good45 N) (by kernel_rfl)

/-! ### 119: node.Node).steals -/
def L119_0 (N : Nat) : Nat → V × Int × Int × V × V × Int × Int × H → Option (V × Int × Int × V × H)
 | 0, _ => none
 | n + 1, (x34, x35, x36, x37, x38, x39, x40, h41) =>
 (if (decide (x40 < x39)) = true then (
 (sidx x38 x40 3).bind fun q42 =>
 (L.asInt .i64 (rd h41 q42 0)).bind fun x43 =>
 (L.asInt .i64 (rd h41 q42 1)).bind fun x44 =>
 (L.asBool (rd h41 q42 2)).bind fun x45 =>
 (F45 N (x34, x43, x44, h41)).bind fun (x46, _) =>
 (nck x46).bind fun _ =>
 (wr h41 (padd x46 3) [(.int .i64 x35)]).bind fun h47 =>
 (nck x46).bind fun _ =>
 (wr h47 (padd x46 9) [(.bool true)]).bind fun h48 =>
 L119_0 N n (x34, x35, x36, x37, x38, x39, (IntKind.i64.wrap (x40 + 1)), h48))
 else (
 some (x34, x35, x36, x37, h41)))
def F119 (N : Nat) : V × Int × Int × H → Option (Int × H)
 | (a0, a1, a2, h) =>
 (if (a1 == a2) = true then (
 none)
 else (
 (nck a0).bind fun _ =>
 ((rd h (padd a0 5) 0)).bind fun x1 =>
 (sidx x1 a1 4).bind fun q2 =>
 ((rd h (padd q2 0) 0)).bind fun x3 =>
 (nck a0).bind fun _ =>
 ((rd h (padd a0 5) 0)).bind fun x4 =>
 (sidx x4 a2 4).bind fun q5 =>
 ((rd h (padd q5 0) 0)).bind fun x6 =>
 (nck a0).bind fun _ =>
 ((rd h (padd a0 3) 0)).bind fun x7 =>
 (F229 N (x7, a1, h)).bind fun (cs8, _) =>
 (L.asAgg 3 (some (.agg cs8))).bind fun cs9 =>
 (F228 N (x3, x6, cs9, h)).bind fun (x10, x11, x12, h13) =>
 (if (x12 != 0) = true then (
 none)
 else (
 (nck a0).bind fun _ =>
 ((rd h13 (padd a0 3) 0)).bind fun x14 =>
 (slen x11).bind fun n15 =>
 (F230 N (x14, a2, a1, x10, n15, h13)).bind fun (x16, h17) =>
 (slen x11).bind fun n18 =>
 (L119_0 N N (a0, a1, a2, x11, x11, n18, 0, h17)).bind fun (x49, x50, x51, x52, h53) =>
 (slen x52).bind fun n54 =>
 (F60 N (x49, 5, x50, 0, 0, x51, n54, h53)).bind fun h55 =>
 (slen x52).bind fun n56 =>
 some (n56, h55)))))
abbrev ks119 : List SK := [.one .ref, .one (.int .i64), .one (.int .i64)]
abbrev rs119 : List SK := [.one (.int .i64)]
def e119 (N : Nat) : Env := ⟨Tryz.prog, 82, inTab [11], inTab [], natTab [(11, 11), (62, 11)], inTab [], calTab [(229, .ro (mkFun ks229 rs229 (F229 N))), (228, .full (mkFun ks228 rs228 (F228 N))), (230, .full (mkFun ks230 rs230 (F230 N))), (45, .ro (mkFun ks45 rs45 (F45 N))), (60, .full (mkFun ks60 rs60 (F60 N)))], altTab [], loopTab [(8, ⟨⟨.normal, [0, 1, 2, 8, 55, 56, 57], [.one .ref, .one (.int .i64), .one (.int .i64), .one .ref, .one .ref, .one (.int .i64), .one (.int .i64)], [], []⟩, [⟨(.exit 0), [0, 1, 2, 8], [.one .ref, .one (.int .i64), .one (.int .i64), .one .ref], [], []⟩], L119_0 N⟩)], natTab [], inTab [2, 5]⟩
theorem l119_0 (N : Nat) : ∀ A, (e119 N).lp (lid (loopAt Tryz.f119 0)) = some A → LoopOk (e119 N) N (loopAt Tryz.f119 0) A :=
  loopOk_of (A := ⟨⟨.normal, [0, 1, 2, 8, 55, 56, 57], [.one .ref, .one (.int .i64), .one (.int .i64), .one .ref, .one .ref, .one (.int .i64), .one (.int .i64)], [], []⟩, [⟨(.exit 0), [0, 1, 2, 8], [.one .ref, .one (.int .i64), .one (.int .i64), .one .ref], [], []⟩], L119_0 N⟩) (by kernel_rfl) (fun _ => rfl) (fun _ _ => by kernel_rfl)
theorem fine119 (N : Nat) : Fine (e119 N) N 119 Tryz.f119 ks119 rs119 (F119 N) :=
  ⟨Tryz.func119, by kernel_rfl, by kernel_rfl, by kernel_rfl, loops_of ⟨l119_0 N, trivial⟩, by kernel_rfl, by kernel_rfl, fun _ => by kernel_rfl⟩
theorem good119 (N : Nat) : Go.L.Good (e119 N) := good_of ⟨gd229 N, ⟨gd228 N, ⟨gd230 N, ⟨gd45 N, ⟨gd60 N, trivial⟩⟩⟩⟩⟩
theorem gd119 (N : Nat) : CalOk Tryz.prog 119 (.full (mkFun ks119 rs119 (F119 N))) := mkFun_good (fine119 N) (good119 N)

/-! ### 215: wheel.class -/
def F215 (N : Nat) : Int × H → Option (Bool × H)
 | (a0, h) =>
 (if (decide (a0 ≥ 0)) = true then (
 some ((decide (a0 < 3)), h))
 else (
 some (false, h))).bind fun (b1, h2) =>
 some (b1, h2)
abbrev ks215 : List SK := [.one (.int .i64)]
abbrev rs215 : List SK := [.one .bool]
def e215 (N : Nat) : Env := ⟨Tryz.prog, 9, inTab [], inTab [], natTab [], inTab [], calTab [], altTab [], loopTab [], natTab [], inTab []⟩
theorem fine215 (N : Nat) : Fine (e215 N) N 215 Tryz.f215 ks215 rs215 (F215 N) :=
  ⟨Tryz.func215, by kernel_rfl, by kernel_rfl, by kernel_rfl, loops_of trivial, by kernel_rfl, by kernel_rfl, fun _ => by kernel_rfl⟩
theorem good215 (N : Nat) : Go.L.Good (e215 N) := good_of trivial
theorem gd215 : CalOk Tryz.prog 215 (.pure (mkP ks215 rs215 (F215 100))) := mkP_good (fine215 100) (good215 100) (by kernel_rfl) (by kernel_rfl)

/-! ### 99: wheel.Check -/
def L99_0 (N : Nat) : Nat → V × Int × Int × List V × H → Option (List V × H)
 | 0, _ => none
 | n + 1, (x11, x12, x13, cs14, h15) =>
 (if (decide (x13 < x12)) = true then (
 (sidx x11 x13 1).bind fun q16 =>
 (L.asInt .i64 (rd h15 q16 0)).bind fun x17 =>
 (F215 100 (x17, [])).bind fun (x18, _) =>
 (if (!x18) = true then (
 none)
 else (
 (if 0 ≤ x17 then (if x17 < 3 then (
 (if (0 + Int.toNat x17 * 1) + 1 ≤ (cs14).length then (
 L99_0 N n (x11, x12, (IntKind.i64.wrap (x13 + 1)), (splice cs14 (0 + Int.toNat x17 * 1) [(.bool true)]), h15)) else none)) else none) else none))))
 else (
 some (cs14, h15)))
def L99_1 (N : Nat) : Nat → Int × List V × H → Option (H)
 | 0, _ => none
 | n + 1, (x25, cs26, h27) =>
 (if (decide (x25 < 3)) = true then (
 (if 0 ≤ x25 then (if x25 < 3 then (
 (L.asBool cs26[((0 + Int.toNat x25 * 1) + 0)]?).bind fun x28 =>
 (if (!x28) = true then (
 none)
 else (
 L99_1 N n ((IntKind.i64.wrap (x25 + 1)), cs26, h27)))) else none) else none))
 else (
 some h27))
def F99 (N : Nat) : V × H → Option (Int × H)
 | (a0, h) =>
 (slen a0).bind fun n1 =>
 (if (decide (n1 > 64)) = true then (
 none)
 else (
 (slen a0).bind fun n2 =>
 (L99_0 N N (a0, n2, 0, [(.bool false), (.bool false), (.bool false)], h)).bind fun (cs19, h20) =>
 (L99_1 N N (0, cs19, h20)).bind fun h29 =>
 some (0, h29)))
abbrev ks99 : List SK := [.one .ref]
abbrev rs99 : List SK := [.one (.int .i64)]
def e99 (N : Nat) : Env := ⟨Tryz.prog, 30, inTab [3], inTab [], natTab [(3, 3), (20, 3), (26, 3)], inTab [], calTab [(215, .pure (mkP ks215 rs215 (F215 100)))], altTab [], loopTab [(5, ⟨⟨.normal, [3, 10, 11, 12], [.lp 3 0, .one .ref, .one (.int .i64), .one (.int .i64)], [3], [.blk]⟩, [⟨(.exit 0), [3], [.lp 3 0], [3], [.blk]⟩], L99_0 N⟩), (12, ⟨⟨.normal, [3, 22], [.lp 3 0, .one (.int .i64)], [3], [.blk]⟩, [⟨(.exit 2), [], [], [], []⟩], L99_1 N⟩)], natTab [], inTab [2, 8, 15]⟩
theorem l99_0 (N : Nat) : ∀ A, (e99 N).lp (lid (loopAt Tryz.f99 0)) = some A → LoopOk (e99 N) N (loopAt Tryz.f99 0) A :=
  loopOk_of (A := ⟨⟨.normal, [3, 10, 11, 12], [.lp 3 0, .one .ref, .one (.int .i64), .one (.int .i64)], [3], [.blk]⟩, [⟨(.exit 0), [3], [.lp 3 0], [3], [.blk]⟩], L99_0 N⟩) (by kernel_rfl) (fun _ => rfl) (fun _ _ => by kernel_rfl)
theorem l99_1 (N : Nat) : ∀ A, (e99 N).lp (lid (loopAt Tryz.f99 1)) = some A → LoopOk (e99 N) N (loopAt Tryz.f99 1) A :=
  loopOk_of (A := ⟨⟨.normal, [3, 22], [.lp 3 0, .one (.int .i64)], [3], [.blk]⟩, [⟨(.exit 2), [], [], [], []⟩], L99_1 N⟩) (by kernel_rfl) (fun _ => rfl) (fun _ _ => by kernel_rfl)
theorem fine99 (N : Nat) : Fine (e99 N) N 99 Tryz.f99 ks99 rs99 (F99 N) :=
  ⟨Tryz.func99, by kernel_rfl, by kernel_rfl, by kernel_rfl, loops_of ⟨l99_0 N, ⟨l99_1 N, trivial⟩⟩, by kernel_rfl, by kernel_rfl, fun _ => by kernel_rfl⟩
theorem good99 (N : Nat) : Go.L.Good (e99 N) := good_of ⟨gd215, trivial⟩
theorem gd99 (N : Nat) : CalOk Tryz.prog 99 (.ro (mkFun ks99 rs99 (F99 N))) := mkFun_ro (fine99 N) (good99 N) (by kernel_rfl)

/-! ### 231: wheel.Next -/
def L231_0 (N : Nat) : Nat → V × Int × Int × List V × H → Option ((H) ⊕ (Int × Int × Int × H))
 | 0, _ => none
 | n + 1, (x14, x15, x16, cs17, h18) =>
 (if (decide (x16 < 3)) = true then (
 (sidx x14 x15 1).bind fun q19 =>
 (L.asInt .i64 (rd h18 q19 0)).bind fun x20 =>
 (if 0 ≤ (Int.tmod (IntKind.i64.wrap (x20 + x16)) 3) then (if (Int.tmod (IntKind.i64.wrap (x20 + x16)) 3) < 3 then (
 (L.asBool cs17[((0 + Int.toNat (Int.tmod (IntKind.i64.wrap (x20 + x16)) 3) * 1) + 0)]?).bind fun x21 =>
 (if x21 = true then (
 (slen x14).bind fun n22 =>
 (if n22 = 0 then none else (
 some (.inr ((Int.tmod (IntKind.i64.wrap (x20 + x16)) 3), (Int.tmod (IntKind.i64.wrap (x15 + 1)) n22), 0, h18)))))
 else (
 L231_0 N n (x14, x15, (IntKind.i64.wrap (x16 + 1)), cs17, h18)))) else none) else none))
 else (
 some (.inl h18)))
def F231 (N : Nat) : V × Int × List V × H → Option (Int × Int × Int × H)
 | (a0, a1, a2, h) =>
 (if (a2).length = 3 then (
 (F99 N (a0, h)).bind fun (x1, _) =>
 (if (x1 != 0) = true then (
 none)
 else (
 (if (decide (a1 < 0)) = true then (
 some (true, h))
 else (
 (slen a0).bind fun n4 =>
 some ((decide (a1 ≥ n4)), h))).bind fun (b2, h3) =>
 (if b2 = true then (
 none)
 else (
 (L231_0 N N (a0, a1, 0, a2, h3)).bind fun o23 => match o23 with
 | .inl h24 => (
 none)
 | .inr (x25, x26, x27, h28) => (
 some (x25, x26, x27, h28))))))) else none)
abbrev ks231 : List SK := [.one .ref, .one (.int .i64), .blk]
abbrev rs231 : List SK := [.one (.int .i64), .one (.int .i64), .one (.int .i64)]
def e231 (N : Nat) : Env := ⟨Tryz.prog, 44, inTab [5], inTab [], natTab [(5, 5), (35, 5)], inTab [], calTab [(99, .ro (mkFun ks99 rs99 (F99 N)))], altTab [], loopTab [(6, ⟨⟨.normal, [0, 1, 5, 24], [.one .ref, .one (.int .i64), .lp 5 0, .one (.int .i64)], [5], [.blk]⟩, [⟨(.exit 1), [], [], [], []⟩, ⟨.ret, [6, 7, 8], [.one (.int .i64), .one (.int .i64), .one (.int .i64)], [], []⟩], L231_0 N⟩)], natTab [], inTab [2, 4, 12]⟩
theorem l231_0 (N : Nat) : ∀ A, (e231 N).lp (lid (loopAt Tryz.f231 0)) = some A → LoopOk (e231 N) N (loopAt Tryz.f231 0) A :=
  loopOk_of (A := ⟨⟨.normal, [0, 1, 5, 24], [.one .ref, .one (.int .i64), .lp 5 0, .one (.int .i64)], [5], [.blk]⟩, [⟨(.exit 1), [], [], [], []⟩, ⟨.ret, [6, 7, 8], [.one (.int .i64), .one (.int .i64), .one (.int .i64)], [], []⟩], L231_0 N⟩) (by kernel_rfl) (fun _ => rfl) (fun _ _ => by kernel_rfl)
theorem fine231 (N : Nat) : Fine (e231 N) N 231 Tryz.f231 ks231 rs231 (F231 N) :=
  ⟨Tryz.func231, by kernel_rfl, by kernel_rfl, by kernel_rfl, loops_of ⟨l231_0 N, trivial⟩, by kernel_rfl, by kernel_rfl, fun _ => by kernel_rfl⟩
theorem good231 (N : Nat) : Go.L.Good (e231 N) := good_of ⟨gd99 N, trivial⟩
theorem gd231 (N : Nat) : CalOk Tryz.prog 231 (.ro (mkFun ks231 rs231 (F231 N))) := mkFun_ro (fine231 N) (good231 N) (by kernel_rfl)

/-! ### 262: api.Entry]).At -/
def F262 (N : Nat) : V × Int × H → Option (Int × Int × Bool × Int × H)
 | (a0, a1, h) =>
 (F249 N (a0, h)).bind fun (x1, _) =>
 (if (!x1) = true then (
 none)
 else (
 (if (decide (a1 < 0)) = true then (
 some (true, h))
 else (
 (nck a0).bind fun _ =>
 ((rd h (padd a0 1) 0)).bind fun x4 =>
 (slen x4).bind fun n5 =>
 some ((decide (a1 ≥ n5)), h))).bind fun (b2, h3) =>
 (if b2 = true then (
 none)
 else (
 (nck a0).bind fun _ =>
 ((rd h3 (padd a0 1) 0)).bind fun x6 =>
 (sidx x6 a1 3).bind fun q7 =>
 (L.asInt .i64 (rd h3 q7 0)).bind fun x8 =>
 (L.asInt .i64 (rd h3 q7 1)).bind fun x9 =>
 (L.asBool (rd h3 q7 2)).bind fun x10 =>
 some (x8, x9, x10, 0, h3)))))
abbrev ks262 : List SK := [.one .ref, .one (.int .i64)]
abbrev rs262 : List SK := [.agg [(.int .i64), (.int .i64), .bool], .one (.int .i64)]
def e262 (N : Nat) : Env := ⟨Tryz.prog, 29, inTab [4], inTab [], natTab [(4, 4)], inTab [], calTab [(249, .ro (mkFun ks249 rs249 (F249 N)))], altTab [], loopTab [], natTab [], inTab [2, 4]⟩
theorem fine262 (N : Nat) : Fine (e262 N) N 262 Tryz.f262 ks262 rs262 (F262 N) :=
  ⟨Tryz.func262, by kernel_rfl, by kernel_rfl, by kernel_rfl, loops_of trivial, by kernel_rfl, by kernel_rfl, fun _ => by kernel_rfl⟩
theorem good262 (N : Nat) : Go.L.Good (e262 N) := good_of ⟨gd249 N, trivial⟩
theorem gd262 (N : Nat) : CalOk Tryz.prog 262 (.ro (mkFun ks262 rs262 (F262 N))) := mkFun_ro (fine262 N) (good262 N) (by kernel_rfl)

/-! ### 263: api.Entry] -/
def F263 (N : Nat) : V × Int × H → Option (V × H)
 | (a0, a1, h) =>
 (if (a1 == 0) = true then (
 (slen a0).bind fun n1 =>
 (ssl 3 a0 1 n1).bind fun v2 =>
 some (v2, h))
 else (
 none))
abbrev ks263 : List SK := [.one .ref, .one (.int .i64)]
abbrev rs263 : List SK := [.one .ref]
def e263 (N : Nat) : Env := ⟨Tryz.prog, 18, inTab [], inTab [], natTab [], inTab [], calTab [], altTab [], loopTab [], natTab [], inTab [3]⟩
theorem fine263 (N : Nat) : Fine (e263 N) N 263 Tryz.f263 ks263 rs263 (F263 N) :=
  ⟨Tryz.func263, by kernel_rfl, by kernel_rfl, by kernel_rfl, loops_of trivial, by kernel_rfl, by kernel_rfl, fun _ => by kernel_rfl⟩
theorem good263 (N : Nat) : Go.L.Good (e263 N) := good_of trivial
theorem gd263 (N : Nat) : CalOk Tryz.prog 263 (.ro (mkFun ks263 rs263 (F263 N))) := mkFun_ro (fine263 N) (good263 N) (by kernel_rfl)

/-! ### 150: api.Entry]).Take -/
def F150 (N : Nat) : V × Int × H → Option (Int × Int × Bool × Int × H)
 | (a0, a1, h) =>
 (F262 N (a0, a1, h)).bind fun (x1, x2, x3, x4, _) =>
 (if (x4 != 0) = true then (
 none)
 else (
 (nck a0).bind fun _ =>
 ((rd h (padd a0 1) 0)).bind fun x5 =>
 (F263 N (x5, a1, h)).bind fun (x6, _) =>
 (nck a0).bind fun _ =>
 (ck1 x6).bind fun _ =>
 (wr h (padd a0 1) [x6]).bind fun h7 =>
 some (x1, x2, x3, 0, h7)))
abbrev ks150 : List SK := [.one .ref, .one (.int .i64)]
abbrev rs150 : List SK := [.agg [(.int .i64), (.int .i64), .bool], .one (.int .i64)]
def e150 (N : Nat) : Env := ⟨Tryz.prog, 26, inTab [4], inTab [], natTab [(4, 4)], inTab [], calTab [(262, .ro (mkFun ks262 rs262 (F262 N))), (263, .ro (mkFun ks263 rs263 (F263 N)))], altTab [], loopTab [], natTab [], inTab [3]⟩
theorem fine150 (N : Nat) : Fine (e150 N) N 150 Tryz.f150 ks150 rs150 (F150 N) :=
  ⟨Tryz.func150, by kernel_rfl, by kernel_rfl, by kernel_rfl, loops_of trivial, by kernel_rfl, by kernel_rfl, fun _ => by kernel_rfl⟩
theorem good150 (N : Nat) : Go.L.Good (e150 N) := good_of ⟨gd262 N, ⟨gd263 N, trivial⟩⟩
theorem gd150 (N : Nat) : CalOk Tryz.prog 150 (.full (mkFun ks150 rs150 (F150 N))) := mkFun_good (fine150 N) (good150 N)

/-! ### 232: api.Entry]).Pop -/
def F232 (N : Nat) : V × H → Option (Int × Int × Bool × Int × H)
 | (a0, h) =>
 (F150 N (a0, 0, h)).bind fun (x1, x2, x3, x4, h5) =>
 some (x1, x2, x3, x4, h5)
abbrev ks232 : List SK := [.one .ref]
abbrev rs232 : List SK := [.agg [(.int .i64), (.int .i64), .bool], .one (.int .i64)]
def e232 (N : Nat) : Env := ⟨Tryz.prog, 8, inTab [2], inTab [], natTab [(2, 2)], inTab [], calTab [(150, .full (mkFun ks150 rs150 (F150 N)))], altTab [], loopTab [], natTab [], inTab []⟩
theorem fine232 (N : Nat) : Fine (e232 N) N 232 Tryz.f232 ks232 rs232 (F232 N) :=
  ⟨Tryz.func232, by kernel_rfl, by kernel_rfl, by kernel_rfl, loops_of trivial, by kernel_rfl, by kernel_rfl, fun _ => by kernel_rfl⟩
theorem good232 (N : Nat) : Go.L.Good (e232 N) := good_of ⟨gd150 N, trivial⟩
theorem gd232 (N : Nat) : CalOk Tryz.prog 232 (.full (mkFun ks232 rs232 (F232 N))) := mkFun_good (fine232 N) (good232 N)

/-! ### 120: core.Core).Pick -/
def L120_0 (N : Nat) : Nat → V × Int × Int × Int × Bool × List V × H → Option (V × Int × Int × Bool × List V × H)
 | 0, _ => none
 | n + 1, (x12, x13, x14, x15, x16, cs17, h18) =>
 (if (decide (x13 < 3)) = true then (
 (nck x12).bind fun _ =>
 (aidx (padd x12 2) x13 3 1).bind fun q19 =>
 ((rd h18 (padd q19 0) 0)).bind fun x20 =>
 (F227 N (x20, h18)).bind fun (x21, _) =>
 (if 0 ≤ x13 then (if x13 < 3 then (
 (if (0 + Int.toNat x13 * 1) + 1 ≤ (cs17).length then (
 L120_0 N n (x12, (IntKind.i64.wrap (x13 + 1)), x14, x15, x16, (splice cs17 (0 + Int.toNat x13 * 1) [(.bool (decide (x21 > 0)))]), h18)) else none)) else none) else none))
 else (
 some (x12, x14, x15, x16, cs17, h18)))
def F120 (N : Nat) : V × H → Option (Int × Int × Bool × Int × Int × H)
 | (a0, h) =>
 (F129 N (a0, h)).bind fun (x1, _) =>
 (if (!x1) = true then (
 none)
 else (
 (L120_0 N N (a0, 0, 0, 0, false, [(.bool false), (.bool false), (.bool false)], h)).bind fun (x22, x23, x24, x25, cs26, h27) =>
 (nck x22).bind fun _ =>
 ((rd h27 (padd x22 0) 0)).bind fun x28 =>
 (nck x22).bind fun _ =>
 (L.asInt .i64 (rd h27 (padd x22 1) 0)).bind fun x29 =>
 ((if 0 + 3 ≤ (cs26).length then some (((cs26).drop 0).take 3) else none) : Option (List V)).bind fun cs30 =>
 (F231 N (x28, x29, cs30, h27)).bind fun (x31, x32, x33, _) =>
 (if (x33 != 0) = true then (
 none)
 else (
 (nck x22).bind fun _ =>
 (wr h27 (padd x22 1) [(.int .i64 x32)]).bind fun h34 =>
 (nck x22).bind fun _ =>
 (aidx (padd x22 2) x31 3 1).bind fun q35 =>
 ((rd h34 (padd q35 0) 0)).bind fun x36 =>
 (F232 N (x36, h34)).bind fun (x37, x38, x39, x40, h41) =>
 some (x37, x38, x39, x31, x40, h41)))))
abbrev ks120 : List SK := [.one .ref]
abbrev rs120 : List SK := [.agg [(.int .i64), (.int .i64), .bool], .one (.int .i64), .one (.int .i64)]
def e120 (N : Nat) : Env := ⟨Tryz.prog, 64, inTab [2, 5], inTab [], natTab [(2, 2), (5, 5), (26, 5)], inTab [], calTab [(129, .ro (mkFun ks129 rs129 (F129 N))), (227, .ro (mkFun ks227 rs227 (F227 N))), (231, .ro (mkFun ks231 rs231 (F231 N))), (232, .full (mkFun ks232 rs232 (F232 N)))], altTab [], loopTab [(5, ⟨⟨.normal, [0, 2, 5, 13], [.one .ref, .lp 2 0, .lp 5 0, .one (.int .i64)], [2, 5], [.cells [(.int .i64), (.int .i64), .bool], .blk]⟩, [⟨(.exit 0), [0, 2, 5], [.one .ref, .lp 2 0, .lp 5 0], [2, 5], [.cells [(.int .i64), (.int .i64), .bool], .blk]⟩], L120_0 N⟩)], natTab [], inTab [2, 11]⟩
theorem l120_0 (N : Nat) : ∀ A, (e120 N).lp (lid (loopAt Tryz.f120 0)) = some A → LoopOk (e120 N) N (loopAt Tryz.f120 0) A :=
  loopOk_of (A := ⟨⟨.normal, [0, 2, 5, 13], [.one .ref, .lp 2 0, .lp 5 0, .one (.int .i64)], [2, 5], [.cells [(.int .i64), (.int .i64), .bool], .blk]⟩, [⟨(.exit 0), [0, 2, 5], [.one .ref, .lp 2 0, .lp 5 0], [2, 5], [.cells [(.int .i64), (.int .i64), .bool], .blk]⟩], L120_0 N⟩) (by kernel_rfl) (fun _ => rfl) (fun _ _ => by kernel_rfl)
theorem fine120 (N : Nat) : Fine (e120 N) N 120 Tryz.f120 ks120 rs120 (F120 N) :=
  ⟨Tryz.func120, by kernel_rfl, by kernel_rfl, by kernel_rfl, loops_of ⟨l120_0 N, trivial⟩, by kernel_rfl, by kernel_rfl, fun _ => by kernel_rfl⟩
theorem good120 (N : Nat) : Go.L.Good (e120 N) := good_of ⟨gd129 N, ⟨gd227 N, ⟨gd231 N, ⟨gd232 N, trivial⟩⟩⟩⟩
theorem gd120 (N : Nat) : CalOk Tryz.prog 120 (.full (mkFun ks120 rs120 (F120 N))) := mkFun_good (fine120 N) (good120 N)

/-! ### 121: node.Node).world -/
def F121 (N : Nat) : V × V × H → Option (V × H)
 | (a0, a1, h) =>
 (ck1 a1).bind fun _ =>
 (some (h ++ [O.cells 0 [a1]]) : Option H).bind fun h1 =>
 (some (h1 ++ [O.cells 0 [(.int .i64 5), (.fnb 233 [a0]), (.int .i64 2), (.fnb 234 [a0]), (.int .i64 3), (.fnb 234 [a0]), (.int .i64 4), (.fnb 235 [a0]), (.int .i64 6), (.fnb 236 [a0]), (.int .i64 7), (.fnb 237 [a0]), (.int .i64 8), (.fnb 238 [a0]), (.int .i64 11), (.fnb 239 [a0]), (.int .i64 9), (.fnb 240 [a0]), (.int .i64 10), (.fnb 240 [a0]), (.int .i64 12), (.fnb 240 [a0]), (.int .i64 14), (.fnb 241 [a0]), (.int .i64 15), (.fnb 241 [a0]), (.int .i64 13), (.fnb 242 [a0]), (.int .i64 16), (.fnb 242 [a0])]]) : Option H).bind fun h2 =>
 (some (h2 ++ [O.cells 0 [.nils]]) : Option H).bind fun h3 =>
 (ck1 (.sl (h1).length 0 0 15 2 (some 15))).bind fun _ =>
 (wr h3 (.ptr (h2).length 0 0) [(.sl (h1).length 0 0 15 2 (some 15))]).bind fun h4 =>
 some ((.fn 243 [(.ptr (h2).length 0 0), (.ptr (h).length 0 0)]), h4)
abbrev ks121 : List SK := [.one .ref, .one .ref]
abbrev rs121 : List SK := [.one .ref]
def e121 (N : Nat) : Env := ⟨Tryz.prog, 53, inTab [], inTab [], natTab [], inTab [], calTab [], altTab [], loopTab [], natTab [], inTab []⟩
theorem fine121 (N : Nat) : Fine (e121 N) N 121 Tryz.f121 ks121 rs121 (F121 N) :=
  ⟨Tryz.func121, by kernel_rfl, by kernel_rfl, by kernel_rfl, loops_of trivial, by kernel_rfl, by kernel_rfl, fun _ => by kernel_rfl⟩
theorem good121 (N : Nat) : Go.L.Good (e121 N) := good_of trivial
theorem gd121 (N : Nat) : CalOk Tryz.prog 121 (.full (mkFun ks121 rs121 (F121 N))) := mkFun_good (fine121 N) (good121 N)

/-! ### 244: frame.Stack).Copy -/
def L244_0 (N : Nat) : Nat → V × V × Int × Int × H → Option (V × H)
 | 0, _ => none
 | n + 1, (x22, x23, x24, x25, h26) =>
 (if (decide (x25 < x24)) = true then (
 (sidx x23 x25 4).bind fun q27 =>
 (L.asInt .i64 (rd h26 q27 0)).bind fun x28 =>
 (L.asInt .i64 (rd h26 q27 1)).bind fun x29 =>
 ((rd h26 q27 2)).bind fun x30 =>
 (L.asInt .i64 (rd h26 q27 3)).bind fun x31 =>
 (F41 N (x30, h26)).bind fun (x32, _) =>
 (ck1 x32).bind fun _ =>
 (nck x22).bind fun _ =>
 ((rd h26 (padd x22 1) 0)).bind fun x33 =>
 (happ h26 x33 4 1 [(.int .i64 x28), (.int .i64 x29), x32, (.int .i64 x31)]).bind fun (v34, h35) =>
 (nck x22).bind fun _ =>
 (ck1 v34).bind fun _ =>
 (wr h35 (padd x22 1) [v34]).bind fun h36 =>
 L244_0 N n (x22, x23, x24, (IntKind.i64.wrap (x25 + 1)), h36))
 else (
 some (x22, h26)))
def F244 (N : Nat) : V × H → Option (V × H)
 | (a0, h) =>
 (F248 N (a0, h)).bind fun (x1, _) =>
 (if (!x1) = true then (
 none)
 else (
 (nck a0).bind fun _ =>
 ((rd h (padd a0 2) 0)).bind fun x2 =>
 (F41 N (x2, h)).bind fun (x3, _) =>
 (ck1 x3).bind fun _ =>
 (some (h ++ [O.cells 0 [(.bool true), .nils, x3]]) : Option H).bind fun h4 =>
 (nck a0).bind fun _ =>
 ((rd h4 (padd a0 1) 0)).bind fun x5 =>
 (slen x5).bind fun n6 =>
 (L244_0 N N ((.ptr (h).length 0 0), x5, n6, 0, h4)).bind fun (x37, h38) =>
 some (x37, h38)))
abbrev ks244 : List SK := [.one .ref]
abbrev rs244 : List SK := [.one .ref]
def e244 (N : Nat) : Env := ⟨Tryz.prog, 41, inTab [5, 35], inTab [], natTab [(5, 5), (25, 5), (28, 5)], inTab [], calTab [(248, .ro (mkFun ks248 rs248 (F248 N))), (41, .ro (mkFun ks41 rs41 (F41 N)))], altTab [], loopTab [(5, ⟨⟨.normal, [3, 19, 20, 21], [.one .ref, .one .ref, .one (.int .i64), .one (.int .i64)], [], []⟩, [⟨(.exit 0), [3], [.one .ref], [], []⟩], L244_0 N⟩)], natTab [], inTab [2]⟩
theorem l244_0 (N : Nat) : ∀ A, (e244 N).lp (lid (loopAt Tryz.f244 0)) = some A → LoopOk (e244 N) N (loopAt Tryz.f244 0) A :=
  loopOk_of (A := ⟨⟨.normal, [3, 19, 20, 21], [.one .ref, .one .ref, .one (.int .i64), .one (.int .i64)], [], []⟩, [⟨(.exit 0), [3], [.one .ref], [], []⟩], L244_0 N⟩) (by kernel_rfl) (fun _ => rfl) (fun _ _ => by kernel_rfl)
theorem fine244 (N : Nat) : Fine (e244 N) N 244 Tryz.f244 ks244 rs244 (F244 N) :=
  ⟨Tryz.func244, by kernel_rfl, by kernel_rfl, by kernel_rfl, loops_of ⟨l244_0 N, trivial⟩, by kernel_rfl, by kernel_rfl, fun _ => by kernel_rfl⟩
theorem good244 (N : Nat) : Go.L.Good (e244 N) := good_of ⟨gd248 N, ⟨gd41 N, trivial⟩⟩
theorem gd244 (N : Nat) : CalOk Tryz.prog 244 (.full (mkFun ks244 rs244 (F244 N))) := mkFun_good (fine244 N) (good244 N)
theorem gl244 (N : Nat) : CalOk Tryz.prog 244 (.gro (mkFun ks244 rs244 (locF true ks244 rs244 (F244 N)))) := loc_gro (gd244 N)

/-! ### 245: frame.Stack).Depth -/
def F245 (N : Nat) : V × H → Option (Int × H)
 | (a0, h) =>
 (F248 N (a0, h)).bind fun (x1, _) =>
 (if (!x1) = true then (
 none)
 else (
 (nck a0).bind fun _ =>
 ((rd h (padd a0 1) 0)).bind fun x2 =>
 (slen x2).bind fun n3 =>
 some (n3, h)))
abbrev ks245 : List SK := [.one .ref]
abbrev rs245 : List SK := [.one (.int .i64)]
def e245 (N : Nat) : Env := ⟨Tryz.prog, 11, inTab [], inTab [], natTab [], inTab [], calTab [(248, .ro (mkFun ks248 rs248 (F248 N)))], altTab [], loopTab [], natTab [], inTab [2]⟩
theorem fine245 (N : Nat) : Fine (e245 N) N 245 Tryz.f245 ks245 rs245 (F245 N) :=
  ⟨Tryz.func245, by kernel_rfl, by kernel_rfl, by kernel_rfl, loops_of trivial, by kernel_rfl, by kernel_rfl, fun _ => by kernel_rfl⟩
theorem good245 (N : Nat) : Go.L.Good (e245 N) := good_of ⟨gd248 N, trivial⟩
theorem gd245 (N : Nat) : CalOk Tryz.prog 245 (.ro (mkFun ks245 rs245 (F245 N))) := mkFun_ro (fine245 N) (good245 N) (by kernel_rfl)

/-! ### 413: step.given -/
def F413 (N : Nat) : V × H → Option (Bool × H)
 | (a0, h) =>
 Option.bind (α := (V × H)) (locF true ks244 rs244 (F244 N) ((a0, h) : V × H)) fun (x1, h2) =>
 (isNil x1).bind fun b3 =>
 some ((!b3), h2)
abbrev ks413 : List SK := [.one .ref]
abbrev rs413 : List SK := [.one .bool]
def e413 (N : Nat) : Env := ⟨Tryz.prog, 6, inTab [], inTab [], natTab [], inTab [], calTab [(244, .gro (mkFun ks244 rs244 (locF true ks244 rs244 (F244 N))))], altTab [], loopTab [], natTab [], inTab []⟩
theorem fine413 (N : Nat) : Fine (e413 N) N 413 Tryz.f413 ks413 rs413 (F413 N) :=
  ⟨Tryz.func413, by kernel_rfl, by kernel_rfl, by kernel_rfl, loops_of trivial, by kernel_rfl, by kernel_rfl, fun _ => by kernel_rfl⟩
theorem good413 (N : Nat) : Go.L.Good (e413 N) := good_of ⟨gl244 N, trivial⟩
theorem gdg413 (N : Nat) : CalOk Tryz.prog 413 (.gro (mkFun ks413 rs413 (F413 N))) := mkFun_groC (fine413 N) (good413 N) (by kernel_rfl)

/-! ### 466: frame.Stack).Top -/
def F466 (N : Nat) : V × H → Option (Int × Int × Int × H)
 | (a0, h) =>
 (F248 N (a0, h)).bind fun (x1, _) =>
 (if (!x1) = true then (
 none)
 else (
 (F393 N (a0, h)).bind fun (x2, _) =>
 (isNil x2).bind fun b3 =>
 (if b3 = true then (
 none)
 else (
 (nck x2).bind fun _ =>
 (L.asInt .i64 (rd h (padd (padd x2 0) 0) 0)).bind fun x4 =>
 (nck x2).bind fun _ =>
 (L.asInt .i64 (rd h (padd (padd x2 0) 1) 0)).bind fun x5 =>
 some (x4, x5, 0, h)))))
abbrev ks466 : List SK := [.one .ref]
abbrev rs466 : List SK := [.one (.int .i64), .one (.int .i64), .one (.int .i64)]
def e466 (N : Nat) : Env := ⟨Tryz.prog, 23, inTab [], inTab [], natTab [], inTab [], calTab [(248, .ro (mkFun ks248 rs248 (F248 N))), (393, .ro (mkFun ks393 rs393 (F393 N)))], altTab [], loopTab [], natTab [], inTab [2, 5]⟩
theorem fine466 (N : Nat) : Fine (e466 N) N 466 Tryz.f466 ks466 rs466 (F466 N) :=
  ⟨Tryz.func466, by kernel_rfl, by kernel_rfl, by kernel_rfl, loops_of trivial, by kernel_rfl, by kernel_rfl, fun _ => by kernel_rfl⟩
theorem good466 (N : Nat) : Go.L.Good (e466 N) := good_of ⟨gd248 N, ⟨gd393 N, trivial⟩⟩
theorem gd466 (N : Nat) : CalOk Tryz.prog 466 (.ro (mkFun ks466 rs466 (F466 N))) := mkFun_ro (fine466 N) (good466 N) (by kernel_rfl)

/-! ### 408: step.found -/
def F408 (N : Nat) : ByteArray × V × V × H → Option (V × Int × H)
 | (a0_0, a0_1, a1, h) =>
 (F413 N (a1, h)).bind fun (x1, h2) =>
 (if (!x1) = true then (
 none)
 else (
 (F466 N (a1, h2)).bind fun (x3, x4, x5, _) =>
 (if (x5 != 0) = true then (
 none)
 else (
 (slen a0_1).bind fun n6 =>
 (if (decide (x3 ≥ n6)) = true then (
 some (true, h2))
 else (
 (sidx a0_1 x3 4).bind fun q9 =>
 ((rd h2 (padd q9 3) 0)).bind fun x10 =>
 (slen x10).bind fun n11 =>
 some ((decide (x4 ≥ n11)), h2))).bind fun (b7, h8) =>
 (if b7 = true then (
 none)
 else (
 (sidx a0_1 x3 4).bind fun q12 =>
 (L.asStr (rd h8 q12 0)).bind fun x13 =>
 (L.asInt .i64 (rd h8 q12 1)).bind fun x14 =>
 (L.asInt .i64 (rd h8 q12 2)).bind fun x15 =>
 ((rd h8 q12 3)).bind fun x16 =>
 (sidx a0_1 x3 4).bind fun q17 =>
 ((rd h8 (padd q17 3) 0)).bind fun x18 =>
 (sidx x18 x4 11).bind fun q19 =>
 (L.asInt .i64 (rd h8 q19 0)).bind fun x20 =>
 (L.asInt .i64 (rd h8 q19 1)).bind fun x21 =>
 (L.asInt .i64 (rd h8 q19 2)).bind fun x22 =>
 (L.asInt .i64 (rd h8 q19 3)).bind fun x23 =>
 (L.asInt .i64 (rd h8 q19 4)).bind fun x24 =>
 (L.asCplx .f64 (rd h8 q19 5)).bind fun x25 =>
 (L.asStr (rd h8 q19 6)).bind fun x26 =>
 (L.asInt .i64 (rd h8 q19 7)).bind fun x27 =>
 (L.asInt .i64 (rd h8 q19 8)).bind fun x28 =>
 ((rd h8 q19 9)).bind fun x29 =>
 ((rd h8 q19 10)).bind fun x30 =>
 Option.bind (α := (V × H)) (locF true ks244 rs244 (F244 N) ((a1, h8) : V × H)) fun (x31, h32) =>
 (ck1 x31).bind fun _ =>
 (some (h32 ++ [O.cells 0 [(.str a0_0), a0_1, (.str x13), (.int .i64 x14), (.int .i64 x15), x16, (.int .i64 x20), (.int .i64 x21), (.int .i64 x22), (.int .i64 x23), (.int .i64 x24), (.cplx .f64 x25.1 x25.2), (.str x26), (.int .i64 x27), (.int .i64 x28), x29, x30, x31, .nils, (.int .i64 1), (.int .i64 0), (.int .i64 0), (.cplx .f64 0 0), (.str (ByteArray.mk #[])), (.int .i64 0), (.int .i64 0), .nils, (.int .i64 0), (.int .i64 0), (.cplx .f64 0 0), (.str (ByteArray.mk #[])), (.int .i64 0), (.int .i64 0), .nils, .nils, (.int .i64 0), (.int .i64 0), (.int .i64 0), .nils, (.int .i64 (IntKind.i64.wrap (x4 + 1)))]]) : Option H).bind fun h33 =>
 some ((.ptr (h32).length 0 0), 0, h33)))))))
abbrev ks408 : List SK := [.agg [.str, .ref], .one .ref]
abbrev rs408 : List SK := [.one .ref, .one (.int .i64)]
def e408 (N : Nat) : Env := ⟨Tryz.prog, 58, inTab [2], inTab [], natTab [(2, 2), (21, 2), (27, 2), (37, 2), (42, 2)], inTab [], calTab [(413, .gro (mkFun ks413 rs413 (F413 N))), (466, .ro (mkFun ks466 rs466 (F466 N))), (244, .gro (mkFun ks244 rs244 (locF true ks244 rs244 (F244 N))))], altTab [], loopTab [], natTab [], inTab [2, 5, 7]⟩
theorem fine408 (N : Nat) : Fine (e408 N) N 408 Tryz.f408 ks408 rs408 (F408 N) :=
  ⟨Tryz.func408, by kernel_rfl, by kernel_rfl, by kernel_rfl, loops_of trivial, by kernel_rfl, by kernel_rfl, fun _ => by kernel_rfl⟩
theorem good408 (N : Nat) : Go.L.Good (e408 N) := good_of ⟨gdg413 N, ⟨gd466 N, ⟨gl244 N, trivial⟩⟩⟩
theorem gdg408 (N : Nat) : CalOk Tryz.prog 408 (.gro (mkFun ks408 rs408 (F408 N))) := mkFun_groC (fine408 N) (good408 N) (by kernel_rfl)

/-! ### 467: frame.Stack).Height -/
def F467 (N : Nat) : V × H → Option (Int × H)
 | (a0, h) =>
 (F248 N (a0, h)).bind fun (x1, _) =>
 (if (!x1) = true then (
 none)
 else (
 (F318 N (a0, h)).bind fun (x2, _) =>
 some (x2, h)))
abbrev ks467 : List SK := [.one .ref]
abbrev rs467 : List SK := [.one (.int .i64)]
def e467 (N : Nat) : Env := ⟨Tryz.prog, 8, inTab [], inTab [], natTab [], inTab [], calTab [(248, .ro (mkFun ks248 rs248 (F248 N))), (318, .ro (mkFun ks318 rs318 (F318 N)))], altTab [], loopTab [], natTab [], inTab [2]⟩
theorem fine467 (N : Nat) : Fine (e467 N) N 467 Tryz.f467 ks467 rs467 (F467 N) :=
  ⟨Tryz.func467, by kernel_rfl, by kernel_rfl, by kernel_rfl, loops_of trivial, by kernel_rfl, by kernel_rfl, fun _ => by kernel_rfl⟩
theorem good467 (N : Nat) : Go.L.Good (e467 N) := good_of ⟨gd248 N, ⟨gd318 N, trivial⟩⟩
theorem gd467 (N : Nat) : CalOk Tryz.prog 467 (.ro (mkFun ks467 rs467 (F467 N))) := mkFun_ro (fine467 N) (good467 N) (by kernel_rfl)

/-! ### 125: frame.Stack).View -/
def L125_0 (N : Nat) : Nat → V × V × Int × Int × V × V × V × V × H → Option (V × V × V × V × V × H)
 | 0, _ => none
 | n + 1, (x21, x22, x23, x24, x25, x26, x27, x28, h29) =>
 (if (decide (x24 < x23)) = true then (
 (sidx x22 x24 4).bind fun q30 =>
 (L.asInt .i64 (rd h29 q30 0)).bind fun x31 =>
 (L.asInt .i64 (rd h29 q30 1)).bind fun x32 =>
 ((rd h29 q30 2)).bind fun x33 =>
 (L.asInt .i64 (rd h29 q30 3)).bind fun x34 =>
 (F41 N (x33, h29)).bind fun (x35, _) =>
 (ck1 x35).bind fun _ =>
 (happ h29 x27 4 1 [(.int .i64 x31), (.int .i64 x32), x35, (.int .i64 x34)]).bind fun (v36, h37) =>
 (ck1 v36).bind fun _ =>
 L125_0 N n (x21, x22, x23, (IntKind.i64.wrap (x24 + 1)), x25, x26, v36, x28, h37))
 else (
 some (x21, x25, x26, x27, x28, h29)))
def F125 (N : Nat) : V × H → Option (V × V × H)
 | (a0, h) =>
 (F248 N (a0, h)).bind fun (x1, _) =>
 (if (!x1) = true then (
 none)
 else (
 (nck a0).bind fun _ =>
 ((rd h (padd a0 1) 0)).bind fun x2 =>
 (slen x2).bind fun n3 =>
 (L125_0 N N (a0, x2, n3, 0, .nils, .nils, .nils, .nils, h)).bind fun (x38, x39, x40, x41, x42, h43) =>
 (nck x38).bind fun _ =>
 ((rd h43 (padd x38 2) 0)).bind fun x44 =>
 (F41 N (x44, h43)).bind fun (x45, _) =>
 (ck1 x45).bind fun _ =>
 some (x41, x45, h43)))
abbrev ks125 : List SK := [.one .ref]
abbrev rs125 : List SK := [.agg [.ref, .ref]]
def e125 (N : Nat) : Env := ⟨Tryz.prog, 44, inTab [2, 3, 5, 33], inTab [], natTab [(2, 2), (3, 3), (5, 5), (19, 3), (21, 5), (22, 5), (24, 5), (25, 5), (27, 5), (30, 5), (35, 3), (42, 3)], inTab [], calTab [(248, .ro (mkFun ks248 rs248 (F248 N))), (41, .ro (mkFun ks41 rs41 (F41 N)))], altTab [], loopTab [(5, ⟨⟨.normal, [0, 2, 3, 13, 14, 15], [.one .ref, .lp 2 0, .lp 3 0, .one .ref, .one (.int .i64), .one (.int .i64)], [2, 3], [.cells [.ref, .ref], .cells [.ref, .ref]]⟩, [⟨(.exit 0), [0, 2, 3], [.one .ref, .lp 2 0, .lp 3 0], [2, 3], [.cells [.ref, .ref], .cells [.ref, .ref]]⟩], L125_0 N⟩)], natTab [], inTab [3]⟩
theorem l125_0 (N : Nat) : ∀ A, (e125 N).lp (lid (loopAt Tryz.f125 0)) = some A → LoopOk (e125 N) N (loopAt Tryz.f125 0) A :=
  loopOk_of (A := ⟨⟨.normal, [0, 2, 3, 13, 14, 15], [.one .ref, .lp 2 0, .lp 3 0, .one .ref, .one (.int .i64), .one (.int .i64)], [2, 3], [.cells [.ref, .ref], .cells [.ref, .ref]]⟩, [⟨(.exit 0), [0, 2, 3], [.one .ref, .lp 2 0, .lp 3 0], [2, 3], [.cells [.ref, .ref], .cells [.ref, .ref]]⟩], L125_0 N⟩) (by kernel_rfl) (fun _ => rfl) (fun _ _ => by kernel_rfl)
theorem fine125 (N : Nat) : Fine (e125 N) N 125 Tryz.f125 ks125 rs125 (F125 N) :=
  ⟨Tryz.func125, by kernel_rfl, by kernel_rfl, by kernel_rfl, loops_of ⟨l125_0 N, trivial⟩, by kernel_rfl, by kernel_rfl, fun _ => by kernel_rfl⟩
theorem good125 (N : Nat) : Go.L.Good (e125 N) := good_of ⟨gd248 N, ⟨gd41 N, trivial⟩⟩
theorem gd125 (N : Nat) : CalOk Tryz.prog 125 (.full (mkFun ks125 rs125 (F125 N))) := mkFun_good (fine125 N) (good125 N)
theorem gl125 (N : Nat) : CalOk Tryz.prog 125 (.gro (mkFun ks125 rs125 (locF true ks125 rs125 (F125 N)))) := loc_gro (gd125 N)

/-! ### 409: step.doing).takes -/
def L409_0 (N : Nat) : Nat → Int × H → Option (H)
 | 0, _ => none
 | n + 1, (x28, h29) =>
 (if (decide (x28 ≥ 0)) = true then (
 none)
 else (
 some h29))
def F409 (N : Nat) : V × H → Option (Int × H)
 | (a0, h) =>
 (nck a0).bind fun _ =>
 (L.asStr (rd h (padd a0 0) 0)).bind fun x1 =>
 ((rd h (padd a0 0) 1)).bind fun x2 =>
 (nck a0).bind fun _ =>
 (L.asInt .i64 (rd h (padd a0 6) 0)).bind fun x3 =>
 (L.asInt .i64 (rd h (padd a0 6) 1)).bind fun x4 =>
 (L.asInt .i64 (rd h (padd a0 6) 2)).bind fun x5 =>
 (L.asInt .i64 (rd h (padd a0 6) 3)).bind fun x6 =>
 (L.asInt .i64 (rd h (padd a0 6) 4)).bind fun x7 =>
 (L.asCplx .f64 (rd h (padd a0 6) 5)).bind fun x8 =>
 (L.asStr (rd h (padd a0 6) 6)).bind fun x9 =>
 (L.asInt .i64 (rd h (padd a0 6) 7)).bind fun x10 =>
 (L.asInt .i64 (rd h (padd a0 6) 8)).bind fun x11 =>
 ((rd h (padd a0 6) 9)).bind fun x12 =>
 ((rd h (padd a0 6) 10)).bind fun x13 =>
 (F219 N (x1, x2, x3, x4, x5, x6, x7, (x8.1, x8.2), x9, x10, x11, x12, x13, h)).bind fun (x14, x15, x16, _) =>
 (if (x16 != 0) = true then (
 none)
 else (
 (nck a0).bind fun _ =>
 ((rd h (padd a0 17) 0)).bind fun x17 =>
 (F467 N (x17, h)).bind fun (x18, _) =>
 (if (decide (x18 < x14)) = true then (
 none)
 else (
 (nck a0).bind fun _ =>
 ((rd h (padd a0 17) 0)).bind fun x19 =>
 Option.bind (α := (V × V × H)) (locF true ks125 rs125 (F125 N) ((x19, h) : V × H)) fun (x20, x21, h22) =>
 (slen x21).bind fun n23 =>
 (if (decide ((IntKind.i64.wrap ((IntKind.i64.wrap (n23 - x14)) + x15)) > 256)) = true then (
 none)
 else (
 (if 0 ≤ x14 then (if x14 ≤ x14 then (if x14 * ((7 : Nat) : Int) ≤ ((mostCells : Nat) : Int) then (
 (some (h22 ++ [O.cells 0 (repeatC (Int.toNat x14) [(.int .i64 0), (.int .i64 0), (.cplx .f64 0 0), (.str (ByteArray.mk #[])), (.int .i64 0), (.int .i64 0), .nils])]) : Option H).bind fun h24 =>
 (nck a0).bind fun _ =>
 (ck1 (.sl (h22).length 0 0 (Int.toNat x14) 7 (some (Int.toNat x14)))).bind fun _ =>
 (wr h24 (padd a0 18) [(.sl (h22).length 0 0 (Int.toNat x14) 7 (some (Int.toNat x14)))]).bind fun h25 =>
 (L409_0 N N ((IntKind.i64.wrap (x14 - 1)), h25)).bind fun h30 =>
 some (0, h30)) else none) else none) else none)))))))
abbrev ks409 : List SK := [.one .ref]
abbrev rs409 : List SK := [.one (.int .i64)]
def e409 (N : Nat) : Env := ⟨Tryz.prog, 67, inTab [], inTab [], natTab [], inTab [], calTab [(219, .ro (mkFun ks219 rs219 (F219 N))), (467, .ro (mkFun ks467 rs467 (F467 N))), (125, .gro (mkFun ks125 rs125 (locF true ks125 rs125 (F125 N))))], altTab [], loopTab [(10, ⟨⟨.normal, [6], [.one (.int .i64)], [], []⟩, [⟨(.exit 0), [], [], [], []⟩], L409_0 N⟩)], natTab [], inTab [3, 5, 7, 11, 12]⟩
theorem l409_0 (N : Nat) : ∀ A, (e409 N).lp (lid (loopAt Tryz.f409 0)) = some A → LoopOk (e409 N) N (loopAt Tryz.f409 0) A :=
  loopOk_of (A := ⟨⟨.normal, [6], [.one (.int .i64)], [], []⟩, [⟨(.exit 0), [], [], [], []⟩], L409_0 N⟩) (by kernel_rfl) (fun _ => rfl) (fun _ _ => by kernel_rfl)
theorem fine409 (N : Nat) : Fine (e409 N) N 409 Tryz.f409 ks409 rs409 (F409 N) :=
  ⟨Tryz.func409, by kernel_rfl, by kernel_rfl, by kernel_rfl, loops_of ⟨l409_0 N, trivial⟩, by kernel_rfl, by kernel_rfl, fun _ => by kernel_rfl⟩
theorem good409 (N : Nat) : Go.L.Good (e409 N) := good_of ⟨gd219 N, ⟨gd467 N, ⟨gl125 N, trivial⟩⟩⟩
theorem gd409 (N : Nat) : CalOk Tryz.prog 409 (.full (mkFun ks409 rs409 (F409 N))) := mkFun_good (fine409 N) (good409 N)


end
end Go.Proofs.YtgipaccfnlklcaaGreat
