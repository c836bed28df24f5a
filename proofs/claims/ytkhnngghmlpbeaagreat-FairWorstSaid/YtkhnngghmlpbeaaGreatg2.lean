/- The functions that the law reaches, as plain ones (printed by gen.py). -/
import Derived.Test.YtkhnngghmlpbeaaGreatg1
set_option linter.unusedVariables false
set_option maxRecDepth 100000
namespace Go.Proofs.YtkhnngghmlpbeaaGreat
noncomputable section
open Go.L

/-! ### 240: carouselref18.stands -/
def F240 (N : Nat) : List V × Int × Int × H → Option (Bool × H)
 | (a0, a1_0, a1_1, h) =>
 (if (a0).length = 5 then (
 ((if 0 + 5 ≤ (a0).length then some (((a0).drop 0).take 5) else none) : Option (List V)).bind fun cs1 =>
 (F312 N (cs1, a1_0, a1_1, h)).bind fun (x2, x3, x4, _) =>
 some ((x4 == 0), h)) else none)
abbrev ks240 : List SK := [.blk, .agg [(.int .i64), (.int .i64)]]
abbrev rs240 : List SK := [.one .bool]
def e240 (N : Nat) : Env := ⟨Tryz.prog, 17, inTab [2, 3], inTab [], natTab [(2, 2), (3, 3)], inTab [], calTab [(312, .ro (mkFun ks312 rs312 (F312 N)))], altTab [], loopTab [], natTab [], inTab []⟩
theorem fine240 (N : Nat) : Fine (e240 N) N 240 Tryz.f240 ks240 rs240 (F240 N) :=
  ⟨Tryz.func240, by kernel_rfl, by kernel_rfl, by kernel_rfl, loops_of trivial, by kernel_rfl, by kernel_rfl, fun _ => by kernel_rfl⟩
theorem good240 (N : Nat) : Go.L.Good (e240 N) := good_of ⟨gd312 N, trivial⟩
theorem gd240 (N : Nat) : CalOk Tryz.prog 240 (.ro (mkFun ks240 rs240 (F240 N))) := mkFun_ro (fine240 N) (good240 N) (by kernel_rfl)

/-! ### 186: carouselref18.Push -/
def F186 (N : Nat) : List V × Int × Int × Int × H → Option (List V × Int × H)
 | (a0, a1, a2_0, a2_1, h) =>
 (if (a0).length = 5 then (
 (F239 100 (a1, [])).bind fun (x1, _) =>
 (if (!x1) = true then (
 some (true, h))
 else (
 ((if 0 + 5 ≤ (a0).length then some (((a0).drop 0).take 5) else none) : Option (List V)).bind fun cs4 =>
 (F240 N (cs4, a2_0, a2_1, h)).bind fun (x5, _) =>
 some (x5, h))).bind fun (b2, h3) =>
 (if b2 = true then (
 none)
 else (
 (if 0 ≤ a1 then (if a1 < 3 then (
 (a0[((2 + Int.toNat a1 * 1) + 0)]?).bind fun x6 =>
 (slen x6).bind fun n7 =>
 (if (decide (n7 ≥ 64)) = true then (
 none)
 else (
 (if 0 ≤ a1 then (if a1 < 3 then (
 (a0[((2 + Int.toNat a1 * 1) + 0)]?).bind fun x8 =>
 (scells h3 x8 3).bind fun cs11 =>
 (happ h3 .nils 3 (snlen x8) cs11).bind fun (v9, h10) =>
 (happ h10 v9 3 1 [(.int .i64 a2_0), (.int .i64 a2_1), (.bool false)]).bind fun (v12, h13) =>
 (if 0 ≤ a1 then (if a1 < 3 then (
 (ck1 v12).bind fun _ =>
 (if (2 + Int.toNat a1 * 1) + 1 ≤ (a0).length then (
 ((if 0 + 5 ≤ ((splice a0 (2 + Int.toNat a1 * 1) [v12])).length then some ((((splice a0 (2 + Int.toNat a1 * 1) [v12])).drop 0).take 5) else none) : Option (List V)).bind fun cs14 =>
 (if (cs14).length = 5 then (
 (if 0 + (cs14).length ≤ 5 then (
 ((if 0 + 5 ≤ ((splice [.nils, (.int .i64 0), .nils, .nils, .nils] 0 cs14)).length then some ((((splice [.nils, (.int .i64 0), .nils, .nils, .nils] 0 cs14)).drop 0).take 5) else none) : Option (List V)).bind fun cs15 =>
 some (cs15, 0, h13)) else none)) else none)) else none)) else none) else none)) else none) else none)))) else none) else none)))) else none)
abbrev ks186 : List SK := [.blk, .one (.int .i64), .agg [(.int .i64), (.int .i64)]]
abbrev rs186 : List SK := [.blk, .one (.int .i64)]
def e186 (N : Nat) : Env := ⟨Tryz.prog, 40, inTab [3, 5, 6, 35], inTab [], natTab [(3, 3), (5, 5), (6, 6), (19, 3), (20, 3), (27, 3), (28, 3), (37, 3), (38, 3)], inTab [], calTab [(239, .pure (mkP ks239 rs239 (F239 100))), (240, .ro (mkFun ks240 rs240 (F240 N)))], altTab [], loopTab [], natTab [], inTab [2, 4]⟩
theorem fine186 (N : Nat) : Fine (e186 N) N 186 Tryz.f186 ks186 rs186 (F186 N) :=
  ⟨Tryz.func186, by kernel_rfl, by kernel_rfl, by kernel_rfl, loops_of trivial, by kernel_rfl, by kernel_rfl, fun _ => by kernel_rfl⟩
theorem good186 (N : Nat) : Go.L.Good (e186 N) := good_of ⟨gd239, ⟨gd240 N, trivial⟩⟩
theorem gd186 (N : Nat) : CalOk Tryz.prog 186 (.full (mkFun ks186 rs186 (F186 N))) := mkFun_good (fine186 N) (good186 N)

/-! ### 129: carouselref21.Node).ready -/
def F129 (N : Nat) : V × Int × H → Option (H)
 | (a0, a1, h) =>
 (nck a0).bind fun _ =>
 ((rd h (padd a0 13) 0)).bind fun x1 =>
 (sidx x1 a1 16).bind fun q2 =>
 (rdN h q2 16).bind fun cs3 =>
 (if (cs3).length = 16 then (
 (if 0 + (cs3).length ≤ 16 then (
 (nck a0).bind fun _ =>
 ((rd h (padd a0 9) 0)).bind fun x4 =>
 (L.asInt .i64 (splice [(.int .i64 0), (.int .i64 0), (.int .i64 0), (.int .i64 0), (.int .i64 0), .nils, .nils, .nils, .nils, (.int .i64 0), (.int .i64 0), (.int .i64 0), (.bool false), (.bool false), (.int .i64 0), (.int .i64 0)] 0 cs3)[3]?).bind fun x5 =>
 (sidx x4 x5 5).bind fun q6 =>
 (rdN h q6 5).bind fun cs7 =>
 (L.asInt .i64 (splice [(.int .i64 0), (.int .i64 0), (.int .i64 0), (.int .i64 0), (.int .i64 0), .nils, .nils, .nils, .nils, (.int .i64 0), (.int .i64 0), (.int .i64 0), (.bool false), (.bool false), (.int .i64 0), (.int .i64 0)] 0 cs3)[2]?).bind fun x8 =>
 (L.asInt .i64 (splice [(.int .i64 0), (.int .i64 0), (.int .i64 0), (.int .i64 0), (.int .i64 0), .nils, .nils, .nils, .nils, (.int .i64 0), (.int .i64 0), (.int .i64 0), (.bool false), (.bool false), (.int .i64 0), (.int .i64 0)] 0 cs3)[0]?).bind fun x9 =>
 (L.asInt .i64 (splice [(.int .i64 0), (.int .i64 0), (.int .i64 0), (.int .i64 0), (.int .i64 0), .nils, .nils, .nils, .nils, (.int .i64 0), (.int .i64 0), (.int .i64 0), (.bool false), (.bool false), (.int .i64 0), (.int .i64 0)] 0 cs3)[1]?).bind fun x10 =>
 (F186 N (cs7, x8, x9, x10, h)).bind fun (cs11, x12, h13) =>
 (L.asAgg 5 (some (.agg cs11))).bind fun cs14 =>
 (if (cs14).length = 5 then (
 (if 0 + (cs14).length ≤ 5 then (
 (nck a0).bind fun _ =>
 ((rd h13 (padd a0 9) 0)).bind fun x15 =>
 (L.asInt .i64 (splice [(.int .i64 0), (.int .i64 0), (.int .i64 0), (.int .i64 0), (.int .i64 0), .nils, .nils, .nils, .nils, (.int .i64 0), (.int .i64 0), (.int .i64 0), (.bool false), (.bool false), (.int .i64 0), (.int .i64 0)] 0 cs3)[3]?).bind fun x16 =>
 ((if 0 + 5 ≤ ((splice [.nils, (.int .i64 0), .nils, .nils, .nils] 0 cs14)).length then some ((((splice [.nils, (.int .i64 0), .nils, .nils, .nils] 0 cs14)).drop 0).take 5) else none) : Option (List V)).bind fun cs17 =>
 (sidx x15 x16 5).bind fun q18 =>
 (if (cs17).length = 5 then (
 (wr h13 q18 cs17).bind fun h19 =>
 (nck a0).bind fun _ =>
 ((rd h19 (padd a0 13) 0)).bind fun x20 =>
 (sidx x20 a1 16).bind fun q21 =>
 (wr h19 (padd q21 11) [(.int .i64 1)]).bind fun h22 =>
 some h22) else none)) else none)) else none)) else none)) else none)
abbrev ks129 : List SK := [.one .ref, .one (.int .i64)]
abbrev rs129 : List SK := []
def e129 (N : Nat) : Env := ⟨Tryz.prog, 45, inTab [4, 5], inTab [], natTab [(4, 4), (5, 5), (19, 4), (23, 4), (25, 4), (34, 4)], inTab [], calTab [(186, .full (mkFun ks186 rs186 (F186 N)))], altTab [], loopTab [], natTab [], inTab []⟩
theorem fine129 (N : Nat) : Fine (e129 N) N 129 Tryz.f129 ks129 rs129 (F129 N) :=
  ⟨Tryz.func129, by kernel_rfl, by kernel_rfl, by kernel_rfl, loops_of trivial, by kernel_rfl, by kernel_rfl, fun _ => by kernel_rfl⟩
theorem good129 (N : Nat) : Go.L.Good (e129 N) := good_of ⟨gd186 N, trivial⟩
theorem gd129 (N : Nat) : CalOk Tryz.prog 129 (.full (mkFun ks129 rs129 (F129 N))) := mkFun_good (fine129 N) (good129 N)

/-! ### 241: carouselref20.May -/
def F241 (N : Nat) : Int × Int × Int × Int × Int × Int × H → Option (Bool × H)
 | (a0_0, a0_1, a0_2, a0_3, a0_4, a0_5, h) =>
 (if (decide (a0_0 ≥ 1)) = true then (
 some ((decide (a0_0 ≤ 10)), h))
 else (
 some (false, h))).bind fun (b1, h2) =>
 (if b1 = true then (
 some ((decide (a0_4 ≥ 0)), h2))
 else (
 some (false, h2))).bind fun (b3, h4) =>
 (if b3 = true then (
 some ((decide (a0_4 ≤ 4611686018427387903)), h4))
 else (
 some (false, h4))).bind fun (b5, h6) =>
 (if b5 = true then (
 some ((decide (a0_5 ≥ 0)), h6))
 else (
 some (false, h6))).bind fun (b7, h8) =>
 (if b7 = true then (
 some ((decide (a0_5 ≤ 4611686018427387903)), h8))
 else (
 some (false, h8))).bind fun (b9, h10) =>
 some (b9, h10)
abbrev ks241 : List SK := [.agg [(.int .i64), (.int .i64), (.int .i64), (.int .i64), (.int .i64), (.int .i64)]]
abbrev rs241 : List SK := [.one .bool]
def e241 (N : Nat) : Env := ⟨Tryz.prog, 31, inTab [1], inTab [], natTab [(1, 1), (3, 1), (7, 1), (12, 1), (17, 1), (22, 1), (27, 1)], inTab [], calTab [], altTab [], loopTab [], natTab [], inTab []⟩
theorem fine241 (N : Nat) : Fine (e241 N) N 241 Tryz.f241 ks241 rs241 (F241 N) :=
  ⟨Tryz.func241, by kernel_rfl, by kernel_rfl, by kernel_rfl, loops_of trivial, by kernel_rfl, by kernel_rfl, fun _ => by kernel_rfl⟩
theorem good241 (N : Nat) : Go.L.Good (e241 N) := good_of trivial
theorem gd241 : CalOk Tryz.prog 241 (.pure (mkP ks241 rs241 (F241 100))) := mkP_good (fine241 100) (good241 100) (by kernel_rfl) (by kernel_rfl)

/-! ### 187: carouselref20.Add -/
def F187 (N : Nat) : List V × Int × Int × Int × Int × Int × Int × H → Option (List V × Int × H)
 | (a0, a1_0, a1_1, a1_2, a1_3, a1_4, a1_5, h) =>
 (if (a0).length = 35 then (
 (F241 100 (a1_0, a1_1, a1_2, a1_3, a1_4, a1_5, [])).bind fun (x1, _) =>
 (if (!x1) = true then (
 none)
 else (
 (a0[1]?).bind fun x2 =>
 (slen x2).bind fun n3 =>
 (L.asInt .i64 a0[0]?).bind fun x4 =>
 (if (n3 == x4) = true then (
 none)
 else (
 (a0[1]?).bind fun x5 =>
 (slen x5).bind fun n6 =>
 (ssl 6 x5 0 n6).bind fun v7 =>
 (scells h v7 6).bind fun cs10 =>
 (happ h .nils 6 (snlen v7) cs10).bind fun (v8, h9) =>
 (happ h9 v8 6 1 [(.int .i64 a1_0), (.int .i64 a1_1), (.int .i64 a1_2), (.int .i64 a1_3), (.int .i64 a1_4), (.int .i64 a1_5)]).bind fun (v11, h12) =>
 (ck1 v11).bind fun _ =>
 (if 1 + 1 ≤ (a0).length then (
 (if 0 ≤ a1_0 then (if a1_0 < 11 then (
 (L.asInt .i64 (splice a0 1 [v11])[((2 + Int.toNat a1_0 * 1) + 0)]?).bind fun x13 =>
 (if 0 ≤ a1_0 then (if a1_0 < 11 then (
 (if (2 + Int.toNat a1_0 * 1) + 1 ≤ ((splice a0 1 [v11])).length then (
 (if 0 ≤ a1_0 then (if a1_0 < 11 then (
 (L.asInt .i64 (splice (splice a0 1 [v11]) (2 + Int.toNat a1_0 * 1) [(.int .i64 (IntKind.i64.wrap (x13 + 1)))])[((13 + Int.toNat a1_0 * 1) + 0)]?).bind fun x14 =>
 (if 0 ≤ a1_0 then (if a1_0 < 11 then (
 (if (13 + Int.toNat a1_0 * 1) + 1 ≤ ((splice (splice a0 1 [v11]) (2 + Int.toNat a1_0 * 1) [(.int .i64 (IntKind.i64.wrap (x13 + 1)))])).length then (
 (if 0 ≤ a1_0 then (if a1_0 < 11 then (
 (L.asInt .i64 (splice (splice (splice a0 1 [v11]) (2 + Int.toNat a1_0 * 1) [(.int .i64 (IntKind.i64.wrap (x13 + 1)))]) (13 + Int.toNat a1_0 * 1) [(.int .i64 (Int.tmod (IntKind.i64.wrap (x14 + a1_4)) 4611686018427387904))])[((24 + Int.toNat a1_0 * 1) + 0)]?).bind fun x15 =>
 (if 0 ≤ a1_0 then (if a1_0 < 11 then (
 (if (24 + Int.toNat a1_0 * 1) + 1 ≤ ((splice (splice (splice a0 1 [v11]) (2 + Int.toNat a1_0 * 1) [(.int .i64 (IntKind.i64.wrap (x13 + 1)))]) (13 + Int.toNat a1_0 * 1) [(.int .i64 (Int.tmod (IntKind.i64.wrap (x14 + a1_4)) 4611686018427387904))])).length then (
 ((if 0 + 35 ≤ ((splice (splice (splice (splice a0 1 [v11]) (2 + Int.toNat a1_0 * 1) [(.int .i64 (IntKind.i64.wrap (x13 + 1)))]) (13 + Int.toNat a1_0 * 1) [(.int .i64 (Int.tmod (IntKind.i64.wrap (x14 + a1_4)) 4611686018427387904))]) (24 + Int.toNat a1_0 * 1) [(.int .i64 (Int.tmod (IntKind.i64.wrap (x15 + a1_5)) 4611686018427387904))])).length then some ((((splice (splice (splice (splice a0 1 [v11]) (2 + Int.toNat a1_0 * 1) [(.int .i64 (IntKind.i64.wrap (x13 + 1)))]) (13 + Int.toNat a1_0 * 1) [(.int .i64 (Int.tmod (IntKind.i64.wrap (x14 + a1_4)) 4611686018427387904))]) (24 + Int.toNat a1_0 * 1) [(.int .i64 (Int.tmod (IntKind.i64.wrap (x15 + a1_5)) 4611686018427387904))])).drop 0).take 35) else none) : Option (List V)).bind fun cs16 =>
 (if (cs16).length = 35 then (
 (if 0 + (cs16).length ≤ 35 then (
 ((if 0 + 35 ≤ ((splice ((.int .i64 0) :: .nils :: List.replicate 33 (.int .i64 0)) 0 cs16)).length then some ((((splice ((.int .i64 0) :: .nils :: List.replicate 33 (.int .i64 0)) 0 cs16)).drop 0).take 35) else none) : Option (List V)).bind fun cs17 =>
 some (cs17, 0, h12)) else none)) else none)) else none)) else none) else none)) else none) else none)) else none)) else none) else none)) else none) else none)) else none)) else none) else none)) else none) else none)) else none)))))) else none)
abbrev ks187 : List SK := [.blk, .agg [(.int .i64), (.int .i64), (.int .i64), (.int .i64), (.int .i64), (.int .i64)]]
abbrev rs187 : List SK := [.blk, .one (.int .i64)]
def e187 (N : Nat) : Env := ⟨Tryz.prog, 66, inTab [2, 3, 4, 26], inTab [], natTab [(2, 2), (3, 3), (4, 4), (12, 2), (15, 2), (19, 2), (28, 2), (29, 3), (31, 3), (33, 2), (34, 2), (37, 2), (38, 2), (39, 3), (41, 3), (43, 2), (44, 2), (46, 3), (50, 2), (51, 2), (52, 3), (54, 3), (56, 2), (57, 2), (59, 3), (63, 2), (64, 2)], inTab [], calTab [(241, .pure (mkP ks241 rs241 (F241 100)))], altTab [], loopTab [], natTab [], inTab [2, 5]⟩
theorem fine187 (N : Nat) : Fine (e187 N) N 187 Tryz.f187 ks187 rs187 (F187 N) :=
  ⟨Tryz.func187, by kernel_rfl, by kernel_rfl, by kernel_rfl, loops_of trivial, by kernel_rfl, by kernel_rfl, fun _ => by kernel_rfl⟩
theorem good187 (N : Nat) : Go.L.Good (e187 N) := good_of ⟨gd241, trivial⟩
theorem gd187 (N : Nat) : CalOk Tryz.prog 187 (.full (mkFun ks187 rs187 (F187 N))) := mkFun_good (fine187 N) (good187 N)

/-! ### 131: carouselref21.Node).event -/
def F131 (N : Nat) : V × Int × Int × Int × Int × Int × Int × H → Option (H)
 | (a0, a1, a2, a3_0, a3_1, a4, a5, h) =>
 (nck a0).bind fun _ =>
 (rdN h (padd a0 17) 35).bind fun cs1 =>
 (F187 N (cs1, a1, a2, a3_0, a3_1, a4, a5, h)).bind fun (cs2, x3, h4) =>
 (L.asAgg 35 (some (.agg cs2))).bind fun cs5 =>
 (if (cs5).length = 35 then (
 (if 0 + (cs5).length ≤ 35 then (
 ((if 0 + 35 ≤ ((splice ((.int .i64 0) :: .nils :: List.replicate 33 (.int .i64 0)) 0 cs5)).length then some ((((splice ((.int .i64 0) :: .nils :: List.replicate 33 (.int .i64 0)) 0 cs5)).drop 0).take 35) else none) : Option (List V)).bind fun cs6 =>
 (nck a0).bind fun _ =>
 (if (cs6).length = 35 then (
 (wr h4 (padd a0 17) cs6).bind fun h7 =>
 some h7) else none)) else none)) else none)
abbrev ks131 : List SK := [.one .ref, .one (.int .i64), .one (.int .i64), .agg [(.int .i64), (.int .i64)], .one (.int .i64), .one (.int .i64)]
abbrev rs131 : List SK := []
def e131 (N : Nat) : Env := ⟨Tryz.prog, 32, inTab [9, 12], inTab [], natTab [(9, 9), (12, 12)], inTab [], calTab [(187, .full (mkFun ks187 rs187 (F187 N)))], altTab [], loopTab [], natTab [], inTab []⟩
theorem fine131 (N : Nat) : Fine (e131 N) N 131 Tryz.f131 ks131 rs131 (F131 N) :=
  ⟨Tryz.func131, by kernel_rfl, by kernel_rfl, by kernel_rfl, loops_of trivial, by kernel_rfl, by kernel_rfl, fun _ => by kernel_rfl⟩
theorem good131 (N : Nat) : Go.L.Good (e131 N) := good_of ⟨gd187 N, trivial⟩
theorem gd131 (N : Nat) : CalOk Tryz.prog 131 (.full (mkFun ks131 rs131 (F131 N))) := mkFun_good (fine131 N) (good131 N)

/-! ### 71: carouselref21.Node).spawn -/
def F71 (N : Nat) : V × Int × Int × Int × Int × V × H → Option (Int × Int × Int × H)
 | (a0, a1, a2, a3, a4, a5, h) =>
 (nck a0).bind fun _ =>
 ((rd h (padd a0 1) 0)).bind fun x1 =>
 (sidx x1 a3 2).bind fun q2 =>
 (L.asStr (rd h q2 0)).bind fun x3 =>
 ((rd h q2 1)).bind fun x4 =>
 (F124 N (x3, x4, a4, a5, h)).bind fun (x5, x6, x7, h8) =>
 (if (x7 != 0) = true then (
 none)
 else (
 (nck a0).bind fun _ =>
 (L.asInt .i64 (rd h8 (padd a0 2) 0)).bind fun x9 =>
 ((rd h8 (padd a0 2) 1)).bind fun x10 =>
 ((rd h8 (padd a0 2) 2)).bind fun x11 =>
 ((rd h8 (padd a0 2) 3)).bind fun x12 =>
 (F125 N (x9, x10, x11, x12, h8)).bind fun (x13, x14, x15, x16, x17, x18, x19, h20) =>
 (if (x19 != 0) = true then (
 none)
 else (
 (nck a0).bind fun _ =>
 ((rd h20 (padd a0 6) 0)).bind fun x21 =>
 (F126 N (x21, a1, a2, h20)).bind fun (x22, x23, h24) =>
 (if (x23 != 0) = true then (
 none)
 else (
 (nck a0).bind fun _ =>
 (wr h24 (padd a0 2) [(.int .i64 x13), x14, x15, x16]).bind fun h25 =>
 (nck a0).bind fun _ =>
 (wr h25 (padd a0 6) [x22]).bind fun h26 =>
 Option.bind (α := (List V × H)) (scalF ks128 rs128 (F128 100) ([] : H)) fun (cs27, _) =>
 (L.asAgg 4 (some (.agg cs27))).bind fun cs28 =>
 (if (cs28).length = 4 then (
 (if 7 + (cs28).length ≤ 16 then (
 (if 15 + 1 ≤ ((splice [(.int .i64 x17), (.int .i64 x18), (.int .i64 a2), (.int .i64 a1), (.int .i64 a3), x5, x6, .nils, .nils, (.int .i64 0), (.int .i64 0), (.int .i64 0), (.bool false), (.bool false), (.int .i64 0), (.int .i64 0)] 7 cs28)).length then (
 (F127 N (a0, (splice (splice [(.int .i64 x17), (.int .i64 x18), (.int .i64 a2), (.int .i64 a1), (.int .i64 a3), x5, x6, .nils, .nils, (.int .i64 0), (.int .i64 0), (.int .i64 0), (.bool false), (.bool false), (.int .i64 0), (.int .i64 0)] 7 cs28) 15 [(.int .i64 (-1))]), h26)).bind fun h29 =>
 (F130 N (a0, x17, x18, h29)).bind fun (x30, _) =>
 (F129 N (a0, x30, h29)).bind fun h31 =>
 (F131 N (a0, 1, a1, x17, x18, a2, a3, h31)).bind fun h32 =>
 some (x17, x18, 0, h32)) else none)) else none)) else none)))))))
abbrev ks71 : List SK := [.one .ref, .one (.int .i64), .one (.int .i64), .one (.int .i64), .one (.int .i64), .one .ref]
abbrev rs71 : List SK := [.agg [(.int .i64), (.int .i64)], .one (.int .i64)]
def e71 (N : Nat) : Env := ⟨Tryz.prog, 92, inTab [12, 14, 16, 17, 18], inTab [], natTab [(12, 12), (14, 14), (16, 16), (17, 17), (18, 18)], inTab [], calTab [(124, .full (mkFun ks124 rs124 (F124 N))), (125, .full (mkFun ks125 rs125 (F125 N))), (126, .full (mkFun ks126 rs126 (F126 N))), (128, .pure (mkP ks128 rs128 (scalF ks128 rs128 (F128 100)))), (127, .full (mkFun ks127 rs127 (F127 N))), (130, .ro (mkFun ks130 rs130 (F130 N))), (129, .full (mkFun ks129 rs129 (F129 N))), (131, .full (mkFun ks131 rs131 (F131 N)))], altTab [], loopTab [], natTab [], inTab [3, 6, 9]⟩
theorem fine71 (N : Nat) : Fine (e71 N) N 71 Tryz.f71 ks71 rs71 (F71 N) :=
  ⟨Tryz.func71, by kernel_rfl, by kernel_rfl, by kernel_rfl, loops_of trivial, by kernel_rfl, by kernel_rfl, fun _ => by kernel_rfl⟩
theorem good71 (N : Nat) : Go.L.Good (e71 N) := good_of ⟨gd124 N, ⟨gd125 N, ⟨gd126 N, ⟨gd128, ⟨gd127 N, ⟨gd130 N, ⟨gd129 N, ⟨gd131 N, trivial⟩⟩⟩⟩⟩⟩⟩⟩
theorem gd71 (N : Nat) : CalOk Tryz.prog 71 (.full (mkFun ks71 rs71 (F71 N))) := mkFun_good (fine71 N) (good71 N)

/-! ### 38: carouselref21.Node).Spawn -/
def F38 (N : Nat) : V × Int × Int × Int × Int × V × H → Option (Int × Int × Int × H)
 | (a0, a1, a2, a3, a4, a5, h) =>
 (F67 N (a0, h)).bind fun (x1, _) =>
 (if x1 = true then (
 none)
 else (
 (if (decide (a3 < 0)) = true then (
 some (true, h))
 else (
 (nck a0).bind fun _ =>
 ((rd h (padd a0 1) 0)).bind fun x4 =>
 (slen x4).bind fun n5 =>
 some ((decide (a3 ≥ n5)), h))).bind fun (b2, h3) =>
 (if b2 = true then (
 none)
 else (
 (nck a0).bind fun _ =>
 ((rd h3 (padd a0 9) 0)).bind fun x6 =>
 (slen x6).bind fun n7 =>
 (F70 100 (a1, n7, [])).bind fun (x8, x9, _) =>
 (F70 100 (a2, 3, [])).bind fun (x10, x11, _) =>
 (F71 N (a0, x8, x10, a3, a4, a5, h3)).bind fun (x12, x13, x14, h15) =>
 (if (x14 != 0) = true then (
 none)
 else (
 (scells h15 a5 7).bind fun cs18 =>
 (happ h15 .nils 7 (snlen a5) cs18).bind fun (v16, h17) =>
 (ck1 v16).bind fun _ =>
 (F69 N (a0, [(.int .i64 2), (.int .i64 x8), (.int .i64 x10), (.int .i64 a3), (.int .i64 a4), (.int .i64 x12), (.int .i64 x13), v16, (.int .i64 0), (.bool false), .nils, .nils, (.int .i64 0), (.int .i64 0), (.int .i64 0), (.int .i64 0), (.int .i64 0), (.int .i64 0), (.int .i64 0), (.int .i64 0), (.cplx .f64 0 0), (.str (ByteArray.mk #[])), (.int .i64 0), (.int .i64 0), .nils, (.int .i64 0), (.int .i64 0), .nils, .nils], h17)).bind fun h19 =>
 some (x12, x13, 0, h19)))))))
abbrev ks38 : List SK := [.one .ref, .one (.int .i64), .one (.int .i64), .one (.int .i64), .one (.int .i64), .one .ref]
abbrev rs38 : List SK := [.agg [(.int .i64), (.int .i64)], .one (.int .i64)]
def e38 (N : Nat) : Env := ⟨Tryz.prog, 78, inTab [12, 18], inTab [], natTab [(12, 12), (18, 18)], inTab [], calTab [(67, .ro (mkFun ks67 rs67 (F67 N))), (70, .pure (mkP ks70 rs70 (F70 100))), (71, .full (mkFun ks71 rs71 (F71 N))), (69, .full (mkFun ks69 rs69 (F69 N)))], altTab [], loopTab [], natTab [], inTab [2, 4, 9]⟩
theorem fine38 (N : Nat) : Fine (e38 N) N 38 Tryz.f38 ks38 rs38 (F38 N) :=
  ⟨Tryz.func38, by kernel_rfl, by kernel_rfl, by kernel_rfl, loops_of trivial, by kernel_rfl, by kernel_rfl, fun _ => by kernel_rfl⟩
theorem good38 (N : Nat) : Go.L.Good (e38 N) := good_of ⟨gd67 N, ⟨gd70, ⟨gd71 N, ⟨gd69 N, trivial⟩⟩⟩⟩
theorem gd38 (N : Nat) : CalOk Tryz.prog 38 (.full (mkFun ks38 rs38 (F38 N))) := mkFun_good (fine38 N) (good38 N)
theorem gl38 (N : Nat) : CalOk Tryz.prog 38 (.full (mkFun ks38 rs38 (locF false ks38 rs38 (F38 N)))) := loc_full (gd38 N)

/-! ### 242: carouselref13.List -/
def L242_0 (N : Nat) : Nat → V × Bool × Int × V × H → Option (V × H)
 | 0, _ => none
 | n + 1, (x10, x11, x12, x13, h14) =>
 (slen x10).bind fun n15 =>
 (slen x13).bind fun n16 =>
 (if (decide (n15 < n16)) = true then (
 none)
 else (
 some (x10, h14)))
def F242 (N : Nat) : Bool × Int × V × H → Option (V × H)
 | (a0_0, a0_1, a0_2, h) =>
 (slen a0_2).bind fun n1 =>
 (if 0 ≤ n1 then (if n1 ≤ n1 then (if n1 * ((1 : Nat) : Int) ≤ ((mostCells : Nat) : Int) then (
 (some (h ++ [O.cells 0 (repeatC (Int.toNat n1) [(.bool false)])]) : Option H).bind fun h2 =>
 (L242_0 N N (.nils, a0_0, a0_1, a0_2, h2)).bind fun (x17, h18) =>
 some (x17, h18)) else none) else none) else none)
abbrev ks242 : List SK := [.agg [.bool, (.int .i64), .ref]]
abbrev rs242 : List SK := [.one .ref]
def e242 (N : Nat) : Env := ⟨Tryz.prog, 61, inTab [1, 58], inTab [], natTab [(1, 1), (7, 1), (13, 1), (18, 1), (33, 1), (39, 1), (53, 1)], inTab [], calTab [], altTab [], loopTab [(3, ⟨⟨.normal, [1, 3], [.lp 1 0, .one .ref], [1], [.cells [.bool, (.int .i64), .ref]]⟩, [⟨(.exit 0), [3], [.one .ref], [], []⟩], L242_0 N⟩)], natTab [], inTab [4, 5, 6, 7, 8, 9, 10, 11]⟩
theorem l242_0 (N : Nat) : ∀ A, (e242 N).lp (lid (loopAt Tryz.f242 0)) = some A → LoopOk (e242 N) N (loopAt Tryz.f242 0) A :=
  loopOk_of (A := ⟨⟨.normal, [1, 3], [.lp 1 0, .one .ref], [1], [.cells [.bool, (.int .i64), .ref]]⟩, [⟨(.exit 0), [3], [.one .ref], [], []⟩], L242_0 N⟩) (by kernel_rfl) (fun _ => rfl) (fun _ _ => by kernel_rfl)
theorem lv242_1 (N : Nat) : ∀ A, (e242 N).lp (lid (loopAt Tryz.f242 1)) = some A → LoopOk (e242 N) N (loopAt Tryz.f242 1) A := fun A h => by
 rw [show (e242 N).lp (lid (loopAt Tryz.f242 1)) = none by kernel_rfl] at h; cases h
theorem fine242 (N : Nat) : Fine (e242 N) N 242 Tryz.f242 ks242 rs242 (F242 N) :=
  ⟨Tryz.func242, by kernel_rfl, by kernel_rfl, by kernel_rfl, loops_of ⟨l242_0 N, ⟨lv242_1 N, trivial⟩⟩, by kernel_rfl, by kernel_rfl, fun _ => by kernel_rfl⟩
theorem good242 (N : Nat) : Go.L.Good (e242 N) := good_of trivial
theorem gdg242 (N : Nat) : CalOk Tryz.prog 242 (.gro (mkFun ks242 rs242 (F242 N))) := mkFun_groC (fine242 N) (good242 N) (by kernel_rfl)

/-! ### 188: carouselref13.Due -/
def L188_0 (N : Nat) : Nat → V × V × Int × Bool × Int × V × Bool × Int × V × Bool × Int × V × H → Option (V × Bool × Int × V × Bool × Int × V × Bool × Int × V × H)
 | 0, _ => none
 | n + 1, (x17, x18, x19, x20, x21, x22, x23, x24, x25, x26, x27, x28, h29) =>
 (slen x18).bind fun n30 =>
 (if (decide (x19 < n30)) = true then (
 none)
 else (
 some (x17, x20, x21, x22, x23, x24, x25, x26, x27, x28, h29)))
def L188_1 (N : Nat) : Nat → V × Int × Bool × Int × V × Bool × Int × V × Bool × Int × V × H → Option (V × Bool × Int × V × Bool × Int × V × H)
 | 0, _ => none
 | n + 1, (x55, x56, x57, x58, x59, x60, x61, x62, x63, x64, x65, h66) =>
 (slen x59).bind fun n67 =>
 (if (decide (x56 < n67)) = true then (
 none)
 else (
 some (x55, x60, x61, x62, x63, x64, x65, h66)))
def F188 (N : Nat) : Bool × Int × V × H → Option (Bool × Int × V × V × H)
 | (a0_0, a0_1, a0_2, h) =>
 (F242 N (a0_0, a0_1, a0_2, h)).bind fun (x1, h2) =>
 (L188_0 N N (.nils, x1, 0, a0_0, a0_1, a0_2, false, 0, .nils, a0_0, a0_1, .nils, h2)).bind fun (x31, x32, x33, x34, x35, x36, x37, x38, x39, x40, h41) =>
 (L188_1 N N (x31, 0, x32, x33, x34, x35, x36, x37, x38, x39, x40, h41)).bind fun (x68, x69, x70, x71, x72, x73, x74, h75) =>
 some (x72, x73, x74, x68, h75)
abbrev ks188 : List SK := [.agg [.bool, (.int .i64), .ref]]
abbrev rs188 : List SK := [.agg [.bool, (.int .i64), .ref], .one .ref]
def e188 (N : Nat) : Env := ⟨Tryz.prog, 65, inTab [1, 2, 4, 35, 60], inTab [], natTab [(1, 1), (2, 2), (4, 4), (9, 1), (11, 1), (27, 1), (38, 1), (44, 1), (50, 1), (53, 4), (55, 1), (62, 4)], inTab [], calTab [(242, .gro (mkFun ks242 rs242 (F242 N)))], altTab [], loopTab [(5, ⟨⟨.normal, [1, 2, 4, 5, 6, 7], [.lp 1 0, .lp 2 0, .lp 4 0, .one .ref, .one .ref, .one (.int .i64)], [1, 2, 4], [.cells [.bool, (.int .i64), .ref], .cells [.bool, (.int .i64), .ref], .cells [.bool, (.int .i64), .ref]]⟩, [⟨(.exit 0), [1, 2, 4, 5], [.lp 1 0, .lp 2 0, .lp 4 0, .one .ref], [1, 2, 4], [.cells [.bool, (.int .i64), .ref], .cells [.bool, (.int .i64), .ref], .cells [.bool, (.int .i64), .ref]]⟩], L188_0 N⟩), (10, ⟨⟨.normal, [1, 2, 4, 5, 8], [.lp 1 0, .lp 2 0, .lp 4 0, .one .ref, .one (.int .i64)], [1, 2, 4], [.cells [.bool, (.int .i64), .ref], .cells [.bool, (.int .i64), .ref], .cells [.bool, (.int .i64), .ref]]⟩, [⟨(.exit 2), [2, 4, 5], [.lp 2 0, .lp 4 0, .one .ref], [2, 4], [.cells [.bool, (.int .i64), .ref], .cells [.bool, (.int .i64), .ref]]⟩], L188_1 N⟩)], natTab [], inTab [6, 7, 8, 11, 12, 13]⟩
theorem l188_0 (N : Nat) : ∀ A, (e188 N).lp (lid (loopAt Tryz.f188 0)) = some A → LoopOk (e188 N) N (loopAt Tryz.f188 0) A :=
  loopOk_of (A := ⟨⟨.normal, [1, 2, 4, 5, 6, 7], [.lp 1 0, .lp 2 0, .lp 4 0, .one .ref, .one .ref, .one (.int .i64)], [1, 2, 4], [.cells [.bool, (.int .i64), .ref], .cells [.bool, (.int .i64), .ref], .cells [.bool, (.int .i64), .ref]]⟩, [⟨(.exit 0), [1, 2, 4, 5], [.lp 1 0, .lp 2 0, .lp 4 0, .one .ref], [1, 2, 4], [.cells [.bool, (.int .i64), .ref], .cells [.bool, (.int .i64), .ref], .cells [.bool, (.int .i64), .ref]]⟩], L188_0 N⟩) (by kernel_rfl) (fun _ => rfl) (fun _ _ => by kernel_rfl)
theorem l188_1 (N : Nat) : ∀ A, (e188 N).lp (lid (loopAt Tryz.f188 1)) = some A → LoopOk (e188 N) N (loopAt Tryz.f188 1) A :=
  loopOk_of (A := ⟨⟨.normal, [1, 2, 4, 5, 8], [.lp 1 0, .lp 2 0, .lp 4 0, .one .ref, .one (.int .i64)], [1, 2, 4], [.cells [.bool, (.int .i64), .ref], .cells [.bool, (.int .i64), .ref], .cells [.bool, (.int .i64), .ref]]⟩, [⟨(.exit 2), [2, 4, 5], [.lp 2 0, .lp 4 0, .one .ref], [2, 4], [.cells [.bool, (.int .i64), .ref], .cells [.bool, (.int .i64), .ref]]⟩], L188_1 N⟩) (by kernel_rfl) (fun _ => rfl) (fun _ _ => by kernel_rfl)
theorem fine188 (N : Nat) : Fine (e188 N) N 188 Tryz.f188 ks188 rs188 (F188 N) :=
  ⟨Tryz.func188, by kernel_rfl, by kernel_rfl, by kernel_rfl, loops_of ⟨l188_0 N, ⟨l188_1 N, trivial⟩⟩, by kernel_rfl, by kernel_rfl, fun _ => by kernel_rfl⟩
theorem good188 (N : Nat) : Go.L.Good (e188 N) := good_of ⟨gdg242 N, trivial⟩
theorem gdg188 (N : Nat) : CalOk Tryz.prog 188 (.gro (mkFun ks188 rs188 (F188 N))) := mkFun_groC (fine188 N) (good188 N) (by kernel_rfl)

/-! ### 132: carouselref21.Node).fires -/
def L132_0 (N : Nat) : Nat → V × Int × V × V × Int × H → Option (V × Int × V × H)
 | 0, _ => none
 | n + 1, (x21, x22, x23, x24, x25, h26) =>
 (slen x24).bind fun n27 =>
 (if (decide (x25 < n27)) = true then (
 none)
 else (
 some (x21, x22, x23, h26)))
def L132_2 (N : Nat) : Nat → V × Int × V × V × Int × Int × H → Option (V × V × Int × H)
 | 0, _ => none
 | n + 1, (x68, x69, x70, x71, x72, x73, h74) =>
 (nck x68).bind fun _ =>
 ((rd h74 (padd x68 13) 0)).bind fun x75 =>
 (slen x75).bind fun n76 =>
 (if (decide (x73 < n76)) = true then (
 (nck x68).bind fun _ =>
 ((rd h74 (padd x68 13) 0)).bind fun x77 =>
 (sidx x77 x73 16).bind fun q78 =>
 (rdN h74 q78 16).bind fun cs79 =>
 (if (cs79).length = 16 then (
 (if 0 + (cs79).length ≤ 16 then (
 (L.asInt .i64 (splice [(.int .i64 0), (.int .i64 0), (.int .i64 0), (.int .i64 0), (.int .i64 0), .nils, .nils, .nils, .nils, (.int .i64 0), (.int .i64 0), (.int .i64 0), (.bool false), (.bool false), (.int .i64 0), (.int .i64 0)] 0 cs79)[3]?).bind fun x80 =>
 (if (x80 == x69) = true then (
 (L.asInt .i64 (splice [(.int .i64 0), (.int .i64 0), (.int .i64 0), (.int .i64 0), (.int .i64 0), .nils, .nils, .nils, .nils, (.int .i64 0), (.int .i64 0), (.int .i64 0), (.bool false), (.bool false), (.int .i64 0), (.int .i64 0)] 0 cs79)[11]?).bind fun x83 =>
 some ((x83 == 2), h74))
 else (
 some (false, h74))).bind fun (b81, h82) =>
 (if b81 = true then (
 (L.asInt .i64 (splice [(.int .i64 0), (.int .i64 0), (.int .i64 0), (.int .i64 0), (.int .i64 0), .nils, .nils, .nils, .nils, (.int .i64 0), (.int .i64 0), (.int .i64 0), (.bool false), (.bool false), (.int .i64 0), (.int .i64 0)] 0 cs79)[15]?).bind fun x86 =>
 some ((decide (x86 ≥ 0)), h82))
 else (
 some (false, h82))).bind fun (b84, h85) =>
 (if b84 = true then (
 (L.asInt .i64 (splice [(.int .i64 0), (.int .i64 0), (.int .i64 0), (.int .i64 0), (.int .i64 0), .nils, .nils, .nils, .nils, (.int .i64 0), (.int .i64 0), (.int .i64 0), (.bool false), (.bool false), (.int .i64 0), (.int .i64 0)] 0 cs79)[15]?).bind fun x89 =>
 (nck x68).bind fun _ =>
 (L.asInt .i64 (rd h85 (padd x68 14) 0)).bind fun x90 =>
 some ((decide (x89 ≤ x90)), h85))
 else (
 some (false, h85))).bind fun (b87, h88) =>
 (if b87 = true then (
 (if (decide (x72 < 0)) = true then (
 some (true, h88))
 else (
 (L.asInt .i64 (splice [(.int .i64 0), (.int .i64 0), (.int .i64 0), (.int .i64 0), (.int .i64 0), .nils, .nils, .nils, .nils, (.int .i64 0), (.int .i64 0), (.int .i64 0), (.bool false), (.bool false), (.int .i64 0), (.int .i64 0)] 0 cs79)[15]?).bind fun x95 =>
 (nck x68).bind fun _ =>
 ((rd h88 (padd x68 13) 0)).bind fun x96 =>
 (sidx x96 x72 16).bind fun q97 =>
 (L.asInt .i64 (rd h88 (padd q97 15) 0)).bind fun x98 =>
 some ((decide (x95 < x98)), h88))).bind fun (b93, h94) =>
 some (b93, h94))
 else (
 some (false, h88))).bind fun (b91, h92) =>
 (if b91 = true then (
 none)
 else (
 L132_2 N n (x68, x69, x70, x71, x72, (IntKind.i64.wrap (x73 + 1)), h92)))) else none)) else none))
 else (
 some (x70, x71, x72, h74)))
def L132_1 (N : Nat) : Nat → V × Int × V × V × H → Option (V × V × H)
 | 0, _ => none
 | n + 1, (x103, x104, x105, x106, h107) =>
 (L132_2 N N (x103, x104, x105, x106, (-1), 0, h107)).bind fun (x108, x109, x110, h111) =>
 (if (decide (x110 < 0)) = true then (
 some (x108, x109, h111))
 else (
 none))
def F132 (N : Nat) : V × Int × H → Option (V × V × H)
 | (a0, a1, h) =>
 (nck a0).bind fun _ =>
 ((rd h (padd a0 10) 0)).bind fun x1 =>
 (sidx x1 a1 3).bind fun q2 =>
 (L.asBool (rd h q2 0)).bind fun x3 =>
 (L.asInt .i64 (rd h q2 1)).bind fun x4 =>
 ((rd h q2 2)).bind fun x5 =>
 (F188 N (x3, x4, x5, h)).bind fun (x6, x7, x8, x9, h10) =>
 (nck a0).bind fun _ =>
 ((rd h10 (padd a0 10) 0)).bind fun x11 =>
 (sidx x11 a1 3).bind fun q12 =>
 (wr h10 q12 [(.bool x6), (.int .i64 x7), x8]).bind fun h13 =>
 (L132_0 N N (a0, a1, .nils, x9, 0, h13)).bind fun (x28, x29, x30, h31) =>
 (L132_1 N N (x28, x29, x30, .nils, h31)).bind fun (x112, x113, h114) =>
 some (x112, x113, h114)
abbrev ks132 : List SK := [.one .ref, .one (.int .i64)]
abbrev rs132 : List SK := [.one .ref, .one .ref]
def e132 (N : Nat) : Env := ⟨Tryz.prog, 146, inTab [7, 13, 44, 141], inTab [], natTab [(7, 7), (13, 13), (87, 13), (92, 13), (97, 13), (102, 13), (114, 13)], inTab [], calTab [(188, .gro (mkFun ks188 rs188 (F188 N)))], altTab [], loopTab [(5, ⟨⟨.normal, [0, 1, 6, 8, 9], [.one .ref, .one (.int .i64), .one .ref, .one .ref, .one (.int .i64)], [], []⟩, [⟨(.exit 0), [0, 1, 6], [.one .ref, .one (.int .i64), .one .ref], [], []⟩], L132_0 N⟩), (11, ⟨⟨.normal, [0, 1, 6, 10], [.one .ref, .one (.int .i64), .one .ref, .one .ref], [], []⟩, [⟨.ret, [4, 5], [.one .ref, .one .ref], [], []⟩], L132_1 N⟩), (13, ⟨⟨.normal, [0, 1, 6, 10, 11, 12], [.one .ref, .one (.int .i64), .one .ref, .one .ref, .one (.int .i64), .one (.int .i64)], [], []⟩, [⟨(.exit 4), [6, 10, 11], [.one .ref, .one .ref, .one (.int .i64)], [], []⟩], L132_2 N⟩)], natTab [], inTab [6, 7, 8, 9, 17, 20, 21]⟩
theorem l132_0 (N : Nat) : ∀ A, (e132 N).lp (lid (loopAt Tryz.f132 0)) = some A → LoopOk (e132 N) N (loopAt Tryz.f132 0) A :=
  loopOk_of (A := ⟨⟨.normal, [0, 1, 6, 8, 9], [.one .ref, .one (.int .i64), .one .ref, .one .ref, .one (.int .i64)], [], []⟩, [⟨(.exit 0), [0, 1, 6], [.one .ref, .one (.int .i64), .one .ref], [], []⟩], L132_0 N⟩) (by kernel_rfl) (fun _ => rfl) (fun _ _ => by kernel_rfl)
theorem l132_1 (N : Nat) : ∀ A, (e132 N).lp (lid (loopAt Tryz.f132 1)) = some A → LoopOk (e132 N) N (loopAt Tryz.f132 1) A :=
  loopOk_of (A := ⟨⟨.normal, [0, 1, 6, 10], [.one .ref, .one (.int .i64), .one .ref, .one .ref], [], []⟩, [⟨.ret, [4, 5], [.one .ref, .one .ref], [], []⟩], L132_1 N⟩) (by kernel_rfl) (fun _ => rfl) (fun _ _ => by kernel_rfl)
theorem l132_2 (N : Nat) : ∀ A, (e132 N).lp (lid (loopAt Tryz.f132 2)) = some A → LoopOk (e132 N) N (loopAt Tryz.f132 2) A :=
  loopOk_of (A := ⟨⟨.normal, [0, 1, 6, 10, 11, 12], [.one .ref, .one (.int .i64), .one .ref, .one .ref, .one (.int .i64), .one (.int .i64)], [], []⟩, [⟨(.exit 4), [6, 10, 11], [.one .ref, .one .ref, .one (.int .i64)], [], []⟩], L132_2 N⟩) (by kernel_rfl) (fun _ => rfl) (fun _ _ => by kernel_rfl)
theorem fine132 (N : Nat) : Fine (e132 N) N 132 Tryz.f132 ks132 rs132 (F132 N) :=
  ⟨Tryz.func132, by kernel_rfl, by kernel_rfl, by kernel_rfl, loops_of ⟨l132_0 N, ⟨l132_1 N, ⟨l132_2 N, trivial⟩⟩⟩, by kernel_rfl, by kernel_rfl, fun _ => by kernel_rfl⟩
theorem good132 (N : Nat) : Go.L.Good (e132 N) := good_of ⟨gdg188 N, trivial⟩
theorem gd132 (N : Nat) : CalOk Tryz.prog 132 (.full (mkFun ks132 rs132 (F132 N))) := mkFun_good (fine132 N) (good132 N)

/-! ### 133: carouselref21.more -/
def F133 (N : Nat) : Int × Int × H → Option (Int × H)
 | (a0, a1, h) =>
 (if (decide (a0 > (IntKind.i64.wrap (4611686018427387903 - a1)))) = true then (
 none)
 else (
 some ((IntKind.i64.wrap (a0 + a1)), h)))
abbrev ks133 : List SK := [.one (.int .i64), .one (.int .i64)]
abbrev rs133 : List SK := [.one (.int .i64)]
def e133 (N : Nat) : Env := ⟨Tryz.prog, 12, inTab [], inTab [], natTab [], inTab [], calTab [], altTab [], loopTab [], natTab [], inTab [2]⟩
theorem fine133 (N : Nat) : Fine (e133 N) N 133 Tryz.f133 ks133 rs133 (F133 N) :=
  ⟨Tryz.func133, by kernel_rfl, by kernel_rfl, by kernel_rfl, loops_of trivial, by kernel_rfl, by kernel_rfl, fun _ => by kernel_rfl⟩
theorem good133 (N : Nat) : Go.L.Good (e133 N) := good_of trivial
theorem gd133 : CalOk Tryz.prog 133 (.pure (mkP ks133 rs133 (F133 100))) := mkP_good (fine133 100) (good133 100) (by kernel_rfl) (by kernel_rfl)

/-! ### 134: carouselref18.Empty -/
def F134 (N : Nat) : List V × H → Option (Bool × H)
 | (a0, h) =>
 (if (a0).length = 5 then (
 (a0[2]?).bind fun x1 =>
 (slen x1).bind fun n2 =>
 (a0[3]?).bind fun x3 =>
 (slen x3).bind fun n4 =>
 (a0[4]?).bind fun x5 =>
 (slen x5).bind fun n6 =>
 some (((IntKind.i64.wrap ((IntKind.i64.wrap (n2 + n4)) + n6)) == 0), h)) else none)
abbrev ks134 : List SK := [.blk]
abbrev rs134 : List SK := [.one .bool]
def e134 (N : Nat) : Env := ⟨Tryz.prog, 18, inTab [1], inTab [], natTab [(1, 1), (3, 1), (4, 1), (7, 1), (8, 1), (12, 1), (13, 1)], inTab [], calTab [], altTab [], loopTab [], natTab [], inTab []⟩
theorem fine134 (N : Nat) : Fine (e134 N) N 134 Tryz.f134 ks134 rs134 (F134 N) :=
  ⟨Tryz.func134, by kernel_rfl, by kernel_rfl, by kernel_rfl, loops_of trivial, by kernel_rfl, by kernel_rfl, fun _ => by kernel_rfl⟩
theorem good134 (N : Nat) : Go.L.Good (e134 N) := good_of trivial
theorem gd134 (N : Nat) : CalOk Tryz.prog 134 (.ro (mkFun ks134 rs134 (F134 N))) := mkFun_ro (fine134 N) (good134 N) (by kernel_rfl)

/-! ### 194: carouselref02.Next -/
def L194_0 (N : Nat) : Nat → V × Int × Int × List V × H → Option ((H) ⊕ (Int × Int × Int × H))
 | 0, _ => none
 | n + 1, (x14, x15, x16, cs17, h18) =>
 (if (decide (x16 < 3)) = true then (
 (sidx x14 x15 1).bind fun q19 =>
 (L.asInt .i64 (rd h18 q19 0)).bind fun x20 =>
 (if 0 ≤ (Int.tmod (IntKind.i64.wrap (x20 + x16)) 3) then (if (Int.tmod (IntKind.i64.wrap (x20 + x16)) 3) < 3 then (
 (L.asBool cs17[((0 + Int.toNat (Int.tmod (IntKind.i64.wrap (x20 + x16)) 3) * 1) + 0)]?).bind fun x21 =>
 (if x21 = true then (
 (slen x14).bind fun n22 =>
 (if n22 = 0 then none else (
 some (.inr ((Int.tmod (IntKind.i64.wrap (x20 + x16)) 3), (Int.tmod (IntKind.i64.wrap (x15 + 1)) n22), 0, h18)))))
 else (
 L194_0 N n (x14, x15, (IntKind.i64.wrap (x16 + 1)), cs17, h18)))) else none) else none))
 else (
 some (.inl h18)))
def F194 (N : Nat) : V × Int × List V × H → Option (Int × Int × Int × H)
 | (a0, a1, a2, h) =>
 (if (a2).length = 3 then (
 (F60 N (a0, h)).bind fun (x1, _) =>
 (if (x1 != 0) = true then (
 none)
 else (
 (if (decide (a1 < 0)) = true then (
 some (true, h))
 else (
 (slen a0).bind fun n4 =>
 some ((decide (a1 ≥ n4)), h))).bind fun (b2, h3) =>
 (if b2 = true then (
 none)
 else (
 (L194_0 N N (a0, a1, 0, a2, h3)).bind fun o23 => match o23 with
 | .inl h24 => (
 none)
 | .inr (x25, x26, x27, h28) => (
 some (x25, x26, x27, h28))))))) else none)
abbrev ks194 : List SK := [.one .ref, .one (.int .i64), .blk]
abbrev rs194 : List SK := [.one (.int .i64), .one (.int .i64), .one (.int .i64)]
def e194 (N : Nat) : Env := ⟨Tryz.prog, 42, inTab [5], inTab [], natTab [(5, 5), (34, 5)], inTab [], calTab [(60, .ro (mkFun ks60 rs60 (F60 N)))], altTab [], loopTab [(6, ⟨⟨.normal, [0, 1, 5, 9], [.one .ref, .one (.int .i64), .lp 5 0, .one (.int .i64)], [5], [.blk]⟩, [⟨(.exit 0), [], [], [], []⟩, ⟨.ret, [6, 7, 8], [.one (.int .i64), .one (.int .i64), .one (.int .i64)], [], []⟩], L194_0 N⟩)], natTab [], inTab [2, 4, 11]⟩
theorem l194_0 (N : Nat) : ∀ A, (e194 N).lp (lid (loopAt Tryz.f194 0)) = some A → LoopOk (e194 N) N (loopAt Tryz.f194 0) A :=
  loopOk_of (A := ⟨⟨.normal, [0, 1, 5, 9], [.one .ref, .one (.int .i64), .lp 5 0, .one (.int .i64)], [5], [.blk]⟩, [⟨(.exit 0), [], [], [], []⟩, ⟨.ret, [6, 7, 8], [.one (.int .i64), .one (.int .i64), .one (.int .i64)], [], []⟩], L194_0 N⟩) (by kernel_rfl) (fun _ => rfl) (fun _ _ => by kernel_rfl)
theorem fine194 (N : Nat) : Fine (e194 N) N 194 Tryz.f194 ks194 rs194 (F194 N) :=
  ⟨Tryz.func194, by kernel_rfl, by kernel_rfl, by kernel_rfl, loops_of ⟨l194_0 N, trivial⟩, by kernel_rfl, by kernel_rfl, fun _ => by kernel_rfl⟩
theorem good194 (N : Nat) : Go.L.Good (e194 N) := good_of ⟨gd60 N, trivial⟩
theorem gd194 (N : Nat) : CalOk Tryz.prog 194 (.ro (mkFun ks194 rs194 (F194 N))) := mkFun_ro (fine194 N) (good194 N) (by kernel_rfl)

/-! ### 195: carouselref18.without -/
def F195 (N : Nat) : V × Int × H → Option (V × H)
 | (a0, a1, h) =>
 (slen a0).bind fun n1 =>
 (ssl 3 a0 0 a1).bind fun v2 =>
 (scells h v2 3).bind fun cs5 =>
 (happ h .nils 3 (snlen v2) cs5).bind fun (v3, h4) =>
 (slen a0).bind fun n6 =>
 (ssl 3 a0 (IntKind.i64.wrap (a1 + 1)) n6).bind fun v7 =>
 (scells h4 v7 3).bind fun cs10 =>
 (happ h4 v3 3 (snlen v7) cs10).bind fun (v8, h9) =>
 some (v8, h9)
abbrev ks195 : List SK := [.one .ref, .one (.int .i64)]
abbrev rs195 : List SK := [.one .ref]
def e195 (N : Nat) : Env := ⟨Tryz.prog, 17, inTab [], inTab [], natTab [], inTab [], calTab [], altTab [], loopTab [], natTab [], inTab []⟩
theorem fine195 (N : Nat) : Fine (e195 N) N 195 Tryz.f195 ks195 rs195 (F195 N) :=
  ⟨Tryz.func195, by kernel_rfl, by kernel_rfl, by kernel_rfl, loops_of trivial, by kernel_rfl, by kernel_rfl, fun _ => by kernel_rfl⟩
theorem good195 (N : Nat) : Go.L.Good (e195 N) := good_of trivial
theorem gd195 (N : Nat) : CalOk Tryz.prog 195 (.full (mkFun ks195 rs195 (F195 N))) := mkFun_good (fine195 N) (good195 N)

/-! ### 136: carouselref18.Pick -/
def L136_0 (N : Nat) : Nat → Int × List V × List V × Int × Int × Bool × List V × H → Option (List V × List V × Int × Int × Bool × List V × H)
 | 0, _ => none
 | n + 1, (x11, cs12, cs13, x14, x15, x16, cs17, h18) =>
 (if (decide (x11 < 3)) = true then (
 (if 0 ≤ x11 then (if x11 < 3 then (
 (cs12[((2 + Int.toNat x11 * 1) + 0)]?).bind fun x19 =>
 (slen x19).bind fun n20 =>
 (if 0 ≤ x11 then (if x11 < 3 then (
 (if (0 + Int.toNat x11 * 1) + 1 ≤ (cs17).length then (
 L136_0 N n ((IntKind.i64.wrap (x11 + 1)), cs12, cs13, x14, x15, x16, (splice cs17 (0 + Int.toNat x11 * 1) [(.bool (decide (n20 > 0)))]), h18)) else none)) else none) else none)) else none) else none))
 else (
 some (cs12, cs13, x14, x15, x16, cs17, h18)))
def F136 (N : Nat) : List V × H → Option (List V × Int × Int × Bool × Int × Int × H)
 | (a0, h) =>
 (if (a0).length = 5 then (
 (L136_0 N N (0, a0, [.nils, (.int .i64 0), .nils, .nils, .nils], 0, 0, false, [(.bool false), (.bool false), (.bool false)], h)).bind fun (cs21, cs22, x23, x24, x25, cs26, h27) =>
 (cs21[0]?).bind fun x28 =>
 (L.asInt .i64 cs21[1]?).bind fun x29 =>
 ((if 0 + 3 ≤ (cs26).length then some (((cs26).drop 0).take 3) else none) : Option (List V)).bind fun cs30 =>
 (F194 N (x28, x29, cs30, h27)).bind fun (x31, x32, x33, _) =>
 (if (x33 != 0) = true then (
 none)
 else (
 (if 0 ≤ x31 then (if x31 < 3 then (
 (cs21[((2 + Int.toNat x31 * 1) + 0)]?).bind fun x34 =>
 (sidx x34 0 3).bind fun q35 =>
 (L.asInt .i64 (rd h27 q35 0)).bind fun x36 =>
 (L.asInt .i64 (rd h27 q35 1)).bind fun x37 =>
 (L.asBool (rd h27 q35 2)).bind fun x38 =>
 (if 0 ≤ x31 then (if x31 < 3 then (
 (cs21[((2 + Int.toNat x31 * 1) + 0)]?).bind fun x39 =>
 (F195 N (x39, 0, h27)).bind fun (x40, h41) =>
 (if 0 ≤ x31 then (if x31 < 3 then (
 (ck1 x40).bind fun _ =>
 (if (2 + Int.toNat x31 * 1) + 1 ≤ (cs21).length then (
 (if 1 + 1 ≤ ((splice cs21 (2 + Int.toNat x31 * 1) [x40])).length then (
 ((if 0 + 5 ≤ ((splice (splice cs21 (2 + Int.toNat x31 * 1) [x40]) 1 [(.int .i64 x32)])).length then some ((((splice (splice cs21 (2 + Int.toNat x31 * 1) [x40]) 1 [(.int .i64 x32)])).drop 0).take 5) else none) : Option (List V)).bind fun cs42 =>
 (if (cs42).length = 5 then (
 (if 0 + (cs42).length ≤ (cs22).length then (
 ((if 0 + 5 ≤ ((splice cs22 0 cs42)).length then some ((((splice cs22 0 cs42)).drop 0).take 5) else none) : Option (List V)).bind fun cs43 =>
 some (cs43, x36, x37, x38, x31, 0, h41)) else none)) else none)) else none)) else none)) else none) else none)) else none) else none)) else none) else none)))) else none)
abbrev ks136 : List SK := [.blk]
abbrev rs136 : List SK := [.blk, .agg [(.int .i64), (.int .i64), .bool], .one (.int .i64), .one (.int .i64)]
def e136 (N : Nat) : Env := ⟨Tryz.prog, 59, inTab [1, 2, 3, 6, 7, 12], inTab [], natTab [(1, 1), (2, 2), (3, 3), (6, 6), (7, 7), (12, 12), (19, 1), (20, 1), (24, 7), (26, 1), (28, 1), (41, 1), (42, 1), (48, 1), (49, 1), (52, 1), (53, 1), (55, 1)], inTab [], calTab [(194, .ro (mkFun ks194 rs194 (F194 N))), (195, .full (mkFun ks195 rs195 (F195 N)))], altTab [], loopTab [(4, ⟨⟨.normal, [1, 2, 3, 7, 8], [.lp 1 0, .lp 2 0, .lp 3 0, .lp 7 0, .one (.int .i64)], [1, 2, 3, 7], [.blk, .blk, .cells [(.int .i64), (.int .i64), .bool], .blk]⟩, [⟨(.exit 0), [1, 2, 3, 7], [.lp 1 0, .lp 2 0, .lp 3 0, .lp 7 0], [1, 2, 3, 7], [.blk, .blk, .cells [(.int .i64), (.int .i64), .bool], .blk]⟩], L136_0 N⟩)], natTab [], inTab [9]⟩
theorem l136_0 (N : Nat) : ∀ A, (e136 N).lp (lid (loopAt Tryz.f136 0)) = some A → LoopOk (e136 N) N (loopAt Tryz.f136 0) A :=
  loopOk_of (A := ⟨⟨.normal, [1, 2, 3, 7, 8], [.lp 1 0, .lp 2 0, .lp 3 0, .lp 7 0, .one (.int .i64)], [1, 2, 3, 7], [.blk, .blk, .cells [(.int .i64), (.int .i64), .bool], .blk]⟩, [⟨(.exit 0), [1, 2, 3, 7], [.lp 1 0, .lp 2 0, .lp 3 0, .lp 7 0], [1, 2, 3, 7], [.blk, .blk, .cells [(.int .i64), (.int .i64), .bool], .blk]⟩], L136_0 N⟩) (by kernel_rfl) (fun _ => rfl) (fun _ _ => by kernel_rfl)
theorem fine136 (N : Nat) : Fine (e136 N) N 136 Tryz.f136 ks136 rs136 (F136 N) :=
  ⟨Tryz.func136, by kernel_rfl, by kernel_rfl, by kernel_rfl, loops_of ⟨l136_0 N, trivial⟩, by kernel_rfl, by kernel_rfl, fun _ => by kernel_rfl⟩
theorem good136 (N : Nat) : Go.L.Good (e136 N) := good_of ⟨gd194 N, ⟨gd195 N, trivial⟩⟩
theorem gd136 (N : Nat) : CalOk Tryz.prog 136 (.full (mkFun ks136 rs136 (F136 N))) := mkFun_good (fine136 N) (good136 N)

/-! ### 196: carouselref11.Over -/
def F196 (N : Nat) : V × V × Int × Int × Int × (Nat × Nat) × ByteArray × Int × Int × V × Int × Int × Int × H → Option (Bool × H)
 | (a0_0, a0_1, a0_2, a0_3, a0_4, a0_5, a0_6, a0_7, a0_8, a0_9, a0_10, a0_11, a1, h) =>
 some ((decide (a0_11 > (IntKind.i64.wrap (a1 - 8)))), h)
abbrev ks196 : List SK := [.agg [.ref, .ref, (.int .i64), (.int .i64), (.int .i64), (.cplx .f64), .str, (.int .i64), (.int .i64), .ref, (.int .i64), (.int .i64)], .one (.int .i64)]
abbrev rs196 : List SK := [.one .bool]
def e196 (N : Nat) : Env := ⟨Tryz.prog, 11, inTab [2], inTab [], natTab [(2, 2), (5, 2), (6, 2)], inTab [], calTab [], altTab [], loopTab [], natTab [], inTab []⟩
theorem fine196 (N : Nat) : Fine (e196 N) N 196 Tryz.f196 ks196 rs196 (F196 N) :=
  ⟨Tryz.func196, by kernel_rfl, by kernel_rfl, by kernel_rfl, loops_of trivial, by kernel_rfl, by kernel_rfl, fun _ => by kernel_rfl⟩
theorem good196 (N : Nat) : Go.L.Good (e196 N) := good_of trivial
theorem gd196 (N : Nat) : CalOk Tryz.prog 196 (.ro (mkFun ks196 rs196 (F196 N))) := mkFun_ro (fine196 N) (good196 N) (by kernel_rfl)

/-! ### 483: carouselref10.code -/
def F483 (N : Nat) : ByteArray × V × V × V × H → Option (ByteArray × Int × Int × V × Bool × H)
 | (a0_0, a0_1, a1_0, a1_1, h) =>
 (slen a1_0).bind fun n1 =>
 (if (n1 == 0) = true then (
 none)
 else (
 (slen a1_0).bind fun n2 =>
 (sidx a1_0 (IntKind.i64.wrap (n2 - 1)) 4).bind fun q3 =>
 (L.asInt .i64 (rd h (padd q3 0) 0)).bind fun x4 =>
 (if (decide (x4 < 0)) = true then (
 some (true, h))
 else (
 (slen a0_1).bind fun n7 =>
 some ((decide (x4 ≥ n7)), h))).bind fun (b5, h6) =>
 (if b5 = true then (
 none)
 else (
 (sidx a0_1 x4 4).bind fun q8 =>
 (L.asStr (rd h6 q8 0)).bind fun x9 =>
 (L.asInt .i64 (rd h6 q8 1)).bind fun x10 =>
 (L.asInt .i64 (rd h6 q8 2)).bind fun x11 =>
 ((rd h6 q8 3)).bind fun x12 =>
 some (x9, x10, x11, x12, true, h6)))))
abbrev ks483 : List SK := [.agg [.str, .ref], .agg [.ref, .ref]]
abbrev rs483 : List SK := [.agg [.str, (.int .i64), (.int .i64), .ref], .one .bool]
def e483 (N : Nat) : Env := ⟨Tryz.prog, 37, inTab [2, 3, 4, 6], inTab [], natTab [(2, 2), (3, 3), (4, 4), (6, 6), (8, 3), (13, 3), (15, 3), (26, 2), (32, 2)], inTab [], calTab [], altTab [], loopTab [], natTab [], inTab [3, 6]⟩
theorem fine483 (N : Nat) : Fine (e483 N) N 483 Tryz.f483 ks483 rs483 (F483 N) :=
  ⟨Tryz.func483, by kernel_rfl, by kernel_rfl, by kernel_rfl, loops_of trivial, by kernel_rfl, by kernel_rfl, fun _ => by kernel_rfl⟩
theorem good483 (N : Nat) : Go.L.Good (e483 N) := good_of trivial
theorem gd483 (N : Nat) : CalOk Tryz.prog 483 (.ro (mkFun ks483 rs483 (F483 N))) := mkFun_ro (fine483 N) (good483 N) (by kernel_rfl)

/-! ### 393: carouselref10.Instr -/
def F393 (N : Nat) : ByteArray × V × V × V × H → Option (Int × Int × Int × Int × Int × (Nat × Nat) × ByteArray × Int × Int × V × V × Bool × H)
 | (a0_0, a0_1, a1_0, a1_1, h) =>
 (F483 N (a0_0, a0_1, a1_0, a1_1, h)).bind fun (x1, x2, x3, x4, x5, _) =>
 (if (!x5) = true then (
 none)
 else (
 (slen a1_0).bind fun n6 =>
 (sidx a1_0 (IntKind.i64.wrap (n6 - 1)) 4).bind fun q7 =>
 (L.asInt .i64 (rd h (padd q7 1) 0)).bind fun x8 =>
 (if (decide (x8 < 0)) = true then (
 some (true, h))
 else (
 (slen x4).bind fun n11 =>
 some ((decide (x8 ≥ n11)), h))).bind fun (b9, h10) =>
 (if b9 = true then (
 none)
 else (
 (sidx x4 x8 11).bind fun q12 =>
 (L.asInt .i64 (rd h10 q12 0)).bind fun x13 =>
 (L.asInt .i64 (rd h10 q12 1)).bind fun x14 =>
 (L.asInt .i64 (rd h10 q12 2)).bind fun x15 =>
 (L.asInt .i64 (rd h10 q12 3)).bind fun x16 =>
 (L.asInt .i64 (rd h10 q12 4)).bind fun x17 =>
 (L.asCplx .f64 (rd h10 q12 5)).bind fun x18 =>
 (L.asStr (rd h10 q12 6)).bind fun x19 =>
 (L.asInt .i64 (rd h10 q12 7)).bind fun x20 =>
 (L.asInt .i64 (rd h10 q12 8)).bind fun x21 =>
 ((rd h10 q12 9)).bind fun x22 =>
 ((rd h10 q12 10)).bind fun x23 =>
 some (x13, x14, x15, x16, x17, (x18.1, x18.2), x19, x20, x21, x22, x23, true, h10)))))
abbrev ks393 : List SK := [.agg [.str, .ref], .agg [.ref, .ref]]
abbrev rs393 : List SK := [.agg [(.int .i64), (.int .i64), (.int .i64), (.int .i64), (.int .i64), (.cplx .f64), .str, (.int .i64), (.int .i64), .ref, .ref], .one .bool]
def e393 (N : Nat) : Env := ⟨Tryz.prog, 43, inTab [2, 3, 4, 6, 7], inTab [], natTab [(2, 2), (3, 3), (4, 4), (6, 6), (7, 7), (19, 3), (21, 3), (32, 7), (38, 7)], inTab [], calTab [(483, .ro (mkFun ks483 rs483 (F483 N)))], altTab [], loopTab [], natTab [], inTab [4, 7]⟩
theorem fine393 (N : Nat) : Fine (e393 N) N 393 Tryz.f393 ks393 rs393 (F393 N) :=
  ⟨Tryz.func393, by kernel_rfl, by kernel_rfl, by kernel_rfl, loops_of trivial, by kernel_rfl, by kernel_rfl, fun _ => by kernel_rfl⟩
theorem good393 (N : Nat) : Go.L.Good (e393 N) := good_of ⟨gd483 N, trivial⟩
theorem gd393 (N : Nat) : CalOk Tryz.prog 393 (.ro (mkFun ks393 rs393 (F393 N))) := mkFun_ro (fine393 N) (good393 N) (by kernel_rfl)

/-! ### 394: carouselref10.base -/
def F394 (N : Nat) : V × V × H → Option (Int × H)
 | (a0_0, a0_1, h) =>
 (slen a0_0).bind fun n1 =>
 (if (n1 == 0) = true then (
 none)
 else (
 (slen a0_0).bind fun n2 =>
 (sidx a0_0 (IntKind.i64.wrap (n2 - 1)) 4).bind fun q3 =>
 (L.asInt .i64 (rd h (padd q3 3) 0)).bind fun x4 =>
 some (x4, h)))
abbrev ks394 : List SK := [.agg [.ref, .ref]]
abbrev rs394 : List SK := [.one (.int .i64)]
def e394 (N : Nat) : Env := ⟨Tryz.prog, 16, inTab [1], inTab [], natTab [(1, 1), (3, 1), (7, 1), (9, 1)], inTab [], calTab [], altTab [], loopTab [], natTab [], inTab [2]⟩
theorem fine394 (N : Nat) : Fine (e394 N) N 394 Tryz.f394 ks394 rs394 (F394 N) :=
  ⟨Tryz.func394, by kernel_rfl, by kernel_rfl, by kernel_rfl, loops_of trivial, by kernel_rfl, by kernel_rfl, fun _ => by kernel_rfl⟩
theorem good394 (N : Nat) : Go.L.Good (e394 N) := good_of trivial
theorem gd394 (N : Nat) : CalOk Tryz.prog 394 (.ro (mkFun ks394 rs394 (F394 N))) := mkFun_ro (fine394 N) (good394 N) (by kernel_rfl)

/-! ### 396: carouselref10.Copy -/
def L396_0 (N : Nat) : Nat → Int × V × V × V × V × V × V × H → Option (V × V × V × V × V × V × H)
 | 0, _ => none
 | n + 1, (x20, x21, x22, x23, x24, x25, x26, h27) =>
 (slen x21).bind fun n28 =>
 (if (decide (x20 < n28)) = true then (
 (sidx x21 x20 4).bind fun q29 =>
 (L.asInt .i64 (rd h27 q29 0)).bind fun x30 =>
 (L.asInt .i64 (rd h27 q29 1)).bind fun x31 =>
 ((rd h27 q29 2)).bind fun x32 =>
 (L.asInt .i64 (rd h27 q29 3)).bind fun x33 =>
 (scells h27 x32 7).bind fun cs36 =>
 (happ h27 .nils 7 (snlen x32) cs36).bind fun (v34, h35) =>
 (ck1 v34).bind fun _ =>
 (happ h35 x25 4 1 [(.int .i64 x30), (.int .i64 x31), v34, (.int .i64 x33)]).bind fun (v37, h38) =>
 (ck1 v37).bind fun _ =>
 L396_0 N n ((IntKind.i64.wrap (x20 + 1)), x21, x22, x23, x24, v37, x26, h38))
 else (
 some (x21, x22, x23, x24, x25, x26, h27)))
def F396 (N : Nat) : V × V × H → Option (V × V × H)
 | (a0_0, a0_1, h) =>
 (L396_0 N N (0, a0_0, a0_1, .nils, .nils, .nils, .nils, h)).bind fun (x39, x40, x41, x42, x43, x44, h45) =>
 (scells h45 x40 7).bind fun cs48 =>
 (happ h45 x44 7 (snlen x40) cs48).bind fun (v46, h47) =>
 (ck1 v46).bind fun _ =>
 some (x43, v46, h47)
abbrev ks396 : List SK := [.agg [.ref, .ref]]
abbrev rs396 : List SK := [.agg [.ref, .ref]]
def e396 (N : Nat) : Env := ⟨Tryz.prog, 38, inTab [1, 2, 3, 5, 28], inTab [], natTab [(1, 1), (2, 2), (3, 3), (5, 5), (8, 1), (14, 1), (20, 5), (24, 5), (25, 3), (30, 3), (31, 3), (33, 1), (36, 3)], inTab [], calTab [], altTab [], loopTab [(3, ⟨⟨.normal, [1, 2, 3, 4], [.lp 1 0, .lp 2 0, .lp 3 0, .one (.int .i64)], [1, 2, 3], [.cells [.ref, .ref], .cells [.ref, .ref], .cells [.ref, .ref]]⟩, [⟨(.exit 0), [1, 2, 3], [.lp 1 0, .lp 2 0, .lp 3 0], [1, 2, 3], [.cells [.ref, .ref], .cells [.ref, .ref], .cells [.ref, .ref]]⟩], L396_0 N⟩)], natTab [], inTab []⟩
theorem l396_0 (N : Nat) : ∀ A, (e396 N).lp (lid (loopAt Tryz.f396 0)) = some A → LoopOk (e396 N) N (loopAt Tryz.f396 0) A :=
  loopOk_of (A := ⟨⟨.normal, [1, 2, 3, 4], [.lp 1 0, .lp 2 0, .lp 3 0, .one (.int .i64)], [1, 2, 3], [.cells [.ref, .ref], .cells [.ref, .ref], .cells [.ref, .ref]]⟩, [⟨(.exit 0), [1, 2, 3], [.lp 1 0, .lp 2 0, .lp 3 0], [1, 2, 3], [.cells [.ref, .ref], .cells [.ref, .ref], .cells [.ref, .ref]]⟩], L396_0 N⟩) (by kernel_rfl) (fun _ => rfl) (fun _ _ => by kernel_rfl)
theorem fine396 (N : Nat) : Fine (e396 N) N 396 Tryz.f396 ks396 rs396 (F396 N) :=
  ⟨Tryz.func396, by kernel_rfl, by kernel_rfl, by kernel_rfl, loops_of ⟨l396_0 N, trivial⟩, by kernel_rfl, by kernel_rfl, fun _ => by kernel_rfl⟩
theorem good396 (N : Nat) : Go.L.Good (e396 N) := good_of trivial
theorem gd396 (N : Nat) : CalOk Tryz.prog 396 (.full (mkFun ks396 rs396 (F396 N))) := mkFun_good (fine396 N) (good396 N)

/-! ### 413: carouselref10.goes -/
def F413 (N : Nat) : ByteArray × V × V × V × Int × H → Option (Bool × H)
 | (a0_0, a0_1, a1_0, a1_1, a2, h) =>
 (F483 N (a0_0, a0_1, a1_0, a1_1, h)).bind fun (x1, x2, x3, x4, x5, _) =>
 (if (!x5) = true then (
 some (true, h))
 else (
 some ((decide (a2 < 0)), h))).bind fun (b6, h7) =>
 (if b6 = true then (
 some (true, h7))
 else (
 (slen x4).bind fun n10 =>
 some ((decide (a2 ≥ n10)), h7))).bind fun (b8, h9) =>
 (if b8 = true then (
 none)
 else (
 (slen a1_0).bind fun n11 =>
 (sidx a1_0 (IntKind.i64.wrap (n11 - 1)) 4).bind fun q12 =>
 (wr h9 (padd q12 1) [(.int .i64 a2)]).bind fun h13 =>
 some (true, h13)))
abbrev ks413 : List SK := [.agg [.str, .ref], .agg [.ref, .ref], .one (.int .i64)]
abbrev rs413 : List SK := [.one .bool]
def e413 (N : Nat) : Env := ⟨Tryz.prog, 37, inTab [3, 4, 7], inTab [], natTab [(3, 3), (4, 4), (7, 7), (23, 7), (28, 4), (30, 4)], inTab [], calTab [(483, .ro (mkFun ks483 rs483 (F483 N)))], altTab [], loopTab [], natTab [], inTab [3]⟩
theorem fine413 (N : Nat) : Fine (e413 N) N 413 Tryz.f413 ks413 rs413 (F413 N) :=
  ⟨Tryz.func413, by kernel_rfl, by kernel_rfl, by kernel_rfl, loops_of trivial, by kernel_rfl, by kernel_rfl, fun _ => by kernel_rfl⟩
theorem good413 (N : Nat) : Go.L.Good (e413 N) := good_of ⟨gd483 N, trivial⟩
theorem gd413 (N : Nat) : CalOk Tryz.prog 413 (.full (mkFun ks413 rs413 (F413 N))) := mkFun_good (fine413 N) (good413 N)

/-! ### 484: carouselref10.moves -/
def F484 (N : Nat) : ByteArray × V × V × V × Int × Int × Int × Int × Int × (Nat × Nat) × ByteArray × Int × Int × V × V × V × H → Option (Int × H)
 | (a0_0, a0_1, a1_0, a1_1, a2_0, a2_1, a2_2, a2_3, a2_4, a2_5, a2_6, a2_7, a2_8, a2_9, a2_10, a3, h) =>
 (slen a1_0).bind fun n1 =>
 (sidx a1_0 (IntKind.i64.wrap (n1 - 1)) 4).bind fun q2 =>
 (L.asInt .i64 (rd h (padd q2 1) 0)).bind fun x3 =>
 (if (a2_0 == 25) = true then (
 (F413 N (a0_0, a0_1, a1_0, a1_1, a2_1, h)).bind fun (x4, h5) =>
 (if (!x4) = true then (
 none)
 else (
 some (0, h5))))
 else (
 none))
abbrev ks484 : List SK := [.agg [.str, .ref], .agg [.ref, .ref], .agg [(.int .i64), (.int .i64), (.int .i64), (.int .i64), (.int .i64), (.cplx .f64), .str, (.int .i64), (.int .i64), .ref, .ref], .one .ref]
abbrev rs484 : List SK := [.one (.int .i64)]
def e484 (N : Nat) : Env := ⟨Tryz.prog, 88, inTab [4, 5, 6], inTab [], natTab [(4, 4), (5, 5), (6, 6), (14, 5), (16, 5), (24, 6), (28, 6), (42, 6), (46, 6), (49, 6), (56, 6), (77, 6)], inTab [], calTab [(413, .full (mkFun ks413 rs413 (F413 N)))], altTab [], loopTab [], natTab [], inTab [5, 6, 7, 8, 9, 10, 11, 12, 13, 14, 15, 16, 17, 18, 19, 20, 21, 23]⟩
theorem lv484_0 (N : Nat) : ∀ A, (e484 N).lp (lid (loopAt Tryz.f484 0)) = some A → LoopOk (e484 N) N (loopAt Tryz.f484 0) A := fun A h => by
 rw [show (e484 N).lp (lid (loopAt Tryz.f484 0)) = none by kernel_rfl] at h; cases h
theorem fine484 (N : Nat) : Fine (e484 N) N 484 Tryz.f484 ks484 rs484 (F484 N) :=
  ⟨Tryz.func484, by kernel_rfl, by kernel_rfl, by kernel_rfl, loops_of ⟨lv484_0 N, trivial⟩, by kernel_rfl, by kernel_rfl, fun _ => by kernel_rfl⟩
theorem good484 (N : Nat) : Go.L.Good (e484 N) := good_of ⟨gd413 N, trivial⟩
theorem gd484 (N : Nat) : CalOk Tryz.prog 484 (.full (mkFun ks484 rs484 (F484 N))) := mkFun_good (fine484 N) (good484 N)

/-! ### 397: carouselref10.one -/
def F397 (N : Nat) : ByteArray × V × V × Int × Int × Int × Int × Int × (Nat × Nat) × ByteArray × Int × Int × V × V × V × H → Option (Int × Int × Int × (Nat × Nat) × ByteArray × Int × Int × V × Int × Int × (Nat × Nat) × ByteArray × Int × Int × V × V × Int × Int × Int × V × Int × H)
 | (a0_0, a0_1, a1, a2_0, a2_1, a2_2, a2_3, a2_4, a2_5, a2_6, a2_7, a2_8, a2_9, a2_10, a3, h) =>
 (nck a1).bind fun _ =>
 ((rd h (padd a1 0) 0)).bind fun x1 =>
 (nck a1).bind fun _ =>
 ((rd h (padd a1 0) 0)).bind fun x2 =>
 (slen x2).bind fun n3 =>
 (sidx x1 (IntKind.i64.wrap (n3 - 1)) 4).bind fun q4 =>
 (L.asInt .i64 (rd h (padd q4 1) 0)).bind fun x5 =>
 (if (a2_0 == 25) = true then (
 (if (a2_0 == 25) = true then (
 (nck a1).bind fun _ =>
 ((rd h a1 0)).bind fun x6 =>
 ((rd h a1 1)).bind fun x7 =>
 (F484 N (a0_0, a0_1, x6, x7, a2_0, a2_1, a2_2, a2_3, a2_4, (a2_5.1, a2_5.2), a2_6, a2_7, a2_8, a2_9, a2_10, a3, h)).bind fun (x8, h9) =>
 some (1, 0, 0, (0, 0), (ByteArray.mk #[]), 0, 0, .nils, 0, 0, (0, 0), (ByteArray.mk #[]), 0, 0, .nils, .nils, 0, 0, 0, .nils, x8, h9))
 else (
 none)))
 else (
 none))
abbrev ks397 : List SK := [.agg [.str, .ref], .one .ref, .agg [(.int .i64), (.int .i64), (.int .i64), (.int .i64), (.int .i64), (.cplx .f64), .str, (.int .i64), (.int .i64), .ref, .ref], .one .ref]
abbrev rs397 : List SK := [.agg [(.int .i64), (.int .i64), (.int .i64), (.cplx .f64), .str, (.int .i64), (.int .i64), .ref, (.int .i64), (.int .i64), (.cplx .f64), .str, (.int .i64), (.int .i64), .ref, .ref, (.int .i64), (.int .i64), (.int .i64), .ref], .one (.int .i64)]
def e397 (N : Nat) : Env := ⟨Tryz.prog, 193, inTab [4, 6, 8, 10, 11, 13, 16, 96], inTab [], natTab [(4, 4), (6, 6), (8, 8), (10, 10), (11, 11), (13, 13), (16, 16), (34, 6), (55, 6), (119, 16), (161, 6), (177, 6)], inTab [], calTab [(484, .full (mkFun ks484 rs484 (F484 N)))], altTab [], loopTab [], natTab [], inTab [6, 7, 9, 10, 11, 12, 13, 14, 15, 16, 17, 18, 19, 20, 21, 22, 23, 24, 25, 26, 27, 28, 29, 30, 31, 32, 33, 34, 35, 36, 37, 38, 39]⟩
theorem fine397 (N : Nat) : Fine (e397 N) N 397 Tryz.f397 ks397 rs397 (F397 N) :=
  ⟨Tryz.func397, by kernel_rfl, by kernel_rfl, by kernel_rfl, loops_of trivial, by kernel_rfl, by kernel_rfl, fun _ => by kernel_rfl⟩
theorem good397 (N : Nat) : Go.L.Good (e397 N) := good_of ⟨gd484 N, trivial⟩
theorem gd397 (N : Nat) : CalOk Tryz.prog 397 (.full (mkFun ks397 rs397 (F397 N))) := mkFun_good (fine397 N) (good397 N)

/-! ### 398: carouselref06.Cost -/
def F398 (N : Nat) : Int × Int × Int × Int × Int × (Nat × Nat) × ByteArray × Int × Int × V × V × H → Option (Int × Int × H)
 | (a0_0, a0_1, a0_2, a0_3, a0_4, a0_5, a0_6, a0_7, a0_8, a0_9, a0_10, h) =>
 (if (decide (a0_0 < 1)) = true then (
 some (true, h))
 else (
 some ((decide (a0_0 > 46)), h))).bind fun (b1, h2) =>
 (if b1 = true then (
 none)
 else (
 ((if (a0_0 == 18) = true then (
 some (a0_0, (a0_0 == 18), h2))
 else (
 (if (a0_0 == 19) = true then (
 some (a0_0, (a0_0 == 19), h2))
 else (
 (if (a0_0 == 27) = true then (
 some (a0_0, (a0_0 == 27), h2))
 else (
 (if (a0_0 == 28) = true then (
 some (a0_0, (a0_0 == 28), h2))
 else (
 (if (a0_0 == 33) = true then (
 some (a0_0, (a0_0 == 33), h2))
 else (
 (if (a0_0 == 35) = true then (
 some (a0_0, (a0_0 == 35), h2))
 else (
 (if (a0_0 == 36) = true then (
 some (a0_0, (a0_0 == 36), h2))
 else (
 (if (a0_0 == 37) = true then (
 some (a0_0, (a0_0 == 37), h2))
 else (
 (if (a0_0 == 38) = true then (
 some (a0_0, (a0_0 == 38), h2))
 else (
 (if (a0_0 == 39) = true then (
 some (a0_0, (a0_0 == 39), h2))
 else (
 (if (a0_0 == 40) = true then (
 some (a0_0, (a0_0 == 40), h2))
 else (
 (if (a0_0 == 42) = true then (
 some (a0_0, (a0_0 == 42), h2))
 else (
 (if (a0_0 == 43) = true then (
 some (a0_0, (a0_0 == 43), h2))
 else (
 some (a0_0, (a0_0 == 44), h2))))))))))))))))))))))))))) : Option (Int × Bool × H)).bind fun (x3, x4, h5) =>
 (if x4 = true then (
 none)
 else (
 (if (x3 == 32) = true then (
 none)
 else (
 (if (x3 == 34) = true then (
 none)
 else (
 some (1, 0, h5)))))))))
abbrev ks398 : List SK := [.agg [(.int .i64), (.int .i64), (.int .i64), (.int .i64), (.int .i64), (.cplx .f64), .str, (.int .i64), (.int .i64), .ref, .ref]]
abbrev rs398 : List SK := [.one (.int .i64), .one (.int .i64)]
def e398 (N : Nat) : Env := ⟨Tryz.prog, 33, inTab [1], inTab [], natTab [(1, 1), (4, 1), (8, 1), (12, 1)], inTab [], calTab [], altTab [(1342177294, [⟨.normal, [13, 14], [.one (.int .i64), .one .bool], [], []⟩])], loopTab [], natTab [], inTab [2, 18, 20, 22]⟩
theorem fine398 (N : Nat) : Fine (e398 N) N 398 Tryz.f398 ks398 rs398 (F398 N) :=
  ⟨Tryz.func398, by kernel_rfl, by kernel_rfl, by kernel_rfl, loops_of trivial, by kernel_rfl, by kernel_rfl, fun _ => by kernel_rfl⟩
theorem good398 (N : Nat) : Go.L.Good (e398 N) := good_of trivial
theorem gd398 (N : Nat) : CalOk Tryz.prog 398 (.ro (mkFun ks398 rs398 (F398 N))) := mkFun_ro (fine398 N) (good398 N) (by kernel_rfl)

/-! ### 314: carouselref10.Do -/
def F314 (N : Nat) : ByteArray × V × V × V × H → Option (V × V × Int × Int × Int × (Nat × Nat) × ByteArray × Int × Int × V × Int × Int × (Nat × Nat) × ByteArray × Int × Int × V × V × Int × Int × Int × V × Int × Int × H)
 | (a0_0, a0_1, a1_0, a1_1, h) =>
 (slen a1_0).bind fun n1 =>
 (if (n1 == 0) = true then (
 none)
 else (
 (F393 N (a0_0, a0_1, a1_0, a1_1, h)).bind fun (x2, x3, x4, x5, x6, x7, x8, x9, x10, x11, x12, x13, _) =>
 (if (!x13) = true then (
 none)
 else (
 (F180 N (a0_0, a0_1, x2, x3, x4, x5, x6, (x7.1, x7.2), x8, x9, x10, x11, x12, h)).bind fun (x14, x15, x16, _) =>
 (if (x16 != 0) = true then (
 none)
 else (
 (slen a1_1).bind fun n17 =>
 (F394 N (a1_0, a1_1, h)).bind fun (x18, _) =>
 (if (decide ((IntKind.i64.wrap (n17 - x18)) < x14)) = true then (
 none)
 else (
 (if (decide ((IntKind.i64.wrap ((IntKind.i64.wrap (n17 - x14)) + x15)) > 256)) = true then (
 none)
 else (
 (if (x2 == 4) = true then (
 some (true, h))
 else (
 some ((x2 == 5), h))).bind fun (b19, h20) =>
 (if b19 = true then (
 none)
 else (
 some (false, h20))).bind fun (b21, h22) =>
 (if b21 = true then (
 none)
 else (
 (F396 N (a1_0, a1_1, h22)).bind fun (x23, x24, h25) =>
 (some (h25 ++ [O.cells 0 [.nils, .nils]]) : Option H).bind fun h26 =>
 (wr h26 (.ptr (h25).length 0 0) [x23, x24]).bind fun h27 =>
 ((rd h27 (.ptr (h25).length 0 1) 0)).bind fun x28 =>
 (slen x28).bind fun n29 =>
 (ssl 7 x28 (IntKind.i64.wrap (n17 - x14)) n29).bind fun v30 =>
 (scells h27 v30 7).bind fun cs33 =>
 (happ h27 .nils 7 (snlen v30) cs33).bind fun (v31, h32) =>
 ((rd h32 (.ptr (h25).length 0 1) 0)).bind fun x34 =>
 (slen x34).bind fun n35 =>
 (ssl 7 x34 0 (IntKind.i64.wrap (n17 - x14))).bind fun v36 =>
 (ck1 v36).bind fun _ =>
 (wr h32 (.ptr (h25).length 0 1) [v36]).bind fun h37 =>
 (F397 N (a0_0, a0_1, (.ptr (h25).length 0 0), x2, x3, x4, x5, x6, (x7.1, x7.2), x8, x9, x10, x11, x12, v31, h37)).bind fun (x38, x39, x40, x41, x42, x43, x44, x45, x46, x47, x48, x49, x50, x51, x52, x53, x54, x55, x56, x57, x58, h59) =>
 (if (x58 != 0) = true then (
 none)
 else (
 (F398 N (x2, x3, x4, x5, x6, (x7.1, x7.2), x8, x9, x10, x11, x12, h59)).bind fun (x60, x61, _) =>
 ((rd h59 (.ptr (h25).length 0 0) 0)).bind fun x62 =>
 ((rd h59 (.ptr (h25).length 0 0) 1)).bind fun x63 =>
 some (x62, x63, x38, x39, x40, (x41.1, x41.2), x42, x43, x44, x45, x46, x47, (x48.1, x48.2), x49, x50, x51, x52, x53, x54, x55, x56, x57, x60, 0, h59)))))))))))))))
abbrev ks314 : List SK := [.agg [.str, .ref], .agg [.ref, .ref]]
abbrev rs314 : List SK := [.agg [.ref, .ref], .agg [(.int .i64), (.int .i64), (.int .i64), (.cplx .f64), .str, (.int .i64), (.int .i64), .ref, (.int .i64), (.int .i64), (.cplx .f64), .str, (.int .i64), (.int .i64), .ref, .ref, (.int .i64), (.int .i64), (.int .i64), .ref], .one (.int .i64), .one (.int .i64)]
def e314 (N : Nat) : Env := ⟨Tryz.prog, 121, inTab [2, 3, 4, 5, 8, 9, 17], inTab [], natTab [(2, 2), (3, 3), (4, 4), (5, 5), (8, 8), (9, 9), (17, 17), (21, 3), (48, 3), (67, 9), (71, 9), (77, 9)], inTab [], calTab [(393, .ro (mkFun ks393 rs393 (F393 N))), (180, .ro (mkFun ks180 rs180 (F180 N))), (394, .ro (mkFun ks394 rs394 (F394 N))), (396, .full (mkFun ks396 rs396 (F396 N))), (397, .full (mkFun ks397 rs397 (F397 N))), (398, .ro (mkFun ks398 rs398 (F398 N)))], altTab [], loopTab [], natTab [], inTab [3, 6, 9, 12, 14, 16, 23]⟩
theorem fine314 (N : Nat) : Fine (e314 N) N 314 Tryz.f314 ks314 rs314 (F314 N) :=
  ⟨Tryz.func314, by kernel_rfl, by kernel_rfl, by kernel_rfl, loops_of trivial, by kernel_rfl, by kernel_rfl, fun _ => by kernel_rfl⟩
theorem good314 (N : Nat) : Go.L.Good (e314 N) := good_of ⟨gd393 N, ⟨gd180 N, ⟨gd394 N, ⟨gd396 N, ⟨gd397 N, ⟨gd398 N, trivial⟩⟩⟩⟩⟩⟩
theorem gd314 (N : Nat) : CalOk Tryz.prog 314 (.full (mkFun ks314 rs314 (F314 N))) := mkFun_good (fine314 N) (good314 N)
theorem gl314 (N : Nat) : CalOk Tryz.prog 314 (.full (mkFun ks314 rs314 (locF false ks314 rs314 (F314 N)))) := loc_full (gd314 N)

/-! ### 249: carouselref11.Ended -/
def F249 (N : Nat) : Int × Int × Int × (Nat × Nat) × ByteArray × Int × Int × V × Int × Int × (Nat × Nat) × ByteArray × Int × Int × V × V × Int × Int × Int × V × H → Option (Int × Int × Int × (Nat × Nat) × ByteArray × Int × Int × V × Bool × H)
 | (a0_0, a0_1, a0_2, a0_3, a0_4, a0_5, a0_6, a0_7, a0_8, a0_9, a0_10, a0_11, a0_12, a0_13, a0_14, a0_15, a0_16, a0_17, a0_18, a0_19, h) =>
 (if (a0_0 == 17) = true then (
 none)
 else (
 some (0, 0, 0, (0, 0), (ByteArray.mk #[]), 0, 0, .nils, false, h)))
abbrev ks249 : List SK := [.agg [(.int .i64), (.int .i64), (.int .i64), (.cplx .f64), .str, (.int .i64), (.int .i64), .ref, (.int .i64), (.int .i64), (.cplx .f64), .str, (.int .i64), (.int .i64), .ref, .ref, (.int .i64), (.int .i64), (.int .i64), .ref]]
abbrev rs249 : List SK := [.one (.int .i64), .agg [(.int .i64), (.int .i64), (.cplx .f64), .str, (.int .i64), (.int .i64), .ref], .one .bool]
def e249 (N : Nat) : Env := ⟨Tryz.prog, 11, inTab [1, 3], inTab [], natTab [(1, 1), (3, 3), (5, 1), (8, 1)], inTab [], calTab [], altTab [], loopTab [], natTab [], inTab [2]⟩
theorem fine249 (N : Nat) : Fine (e249 N) N 249 Tryz.f249 ks249 rs249 (F249 N) :=
  ⟨Tryz.func249, by kernel_rfl, by kernel_rfl, by kernel_rfl, loops_of trivial, by kernel_rfl, by kernel_rfl, fun _ => by kernel_rfl⟩
theorem good249 (N : Nat) : Go.L.Good (e249 N) := good_of trivial
theorem gd249 (N : Nat) : CalOk Tryz.prog 249 (.ro (mkFun ks249 rs249 (F249 N))) := mkFun_ro (fine249 N) (good249 N) (by kernel_rfl)

/-! ### 138: carouselref21.Node).ends -/
def F138 (N : Nat) : V × Int × Int × Int × Int × Int × (Nat × Nat) × ByteArray × Int × Int × V × Int × Int × H → Option (H)
 | (a0, a1_0, a1_1, a2_0, a2_1, a2_2, a2_3, a2_4, a2_5, a2_6, a2_7, a2_8, a2_9, h) =>
 (F130 N (a0, a1_0, a1_1, h)).bind fun (x1, _) =>
 (if (a2_0 == 1) = true then (
 (F129 N (a0, x1, h)).bind fun h2 =>
 some h2)
 else (
 none))
abbrev ks138 : List SK := [.one .ref, .agg [(.int .i64), (.int .i64)], .agg [(.int .i64), (.int .i64), (.int .i64), (.cplx .f64), .str, (.int .i64), (.int .i64), .ref, (.int .i64), (.int .i64)]]
abbrev rs138 : List SK := []
def e138 (N : Nat) : Env := ⟨Tryz.prog, 31, inTab [4, 5], inTab [], natTab [(4, 4), (5, 5), (10, 5), (14, 5)], inTab [], calTab [(130, .ro (mkFun ks130 rs130 (F130 N))), (129, .full (mkFun ks129 rs129 (F129 N)))], altTab [], loopTab [], natTab [], inTab [3, 6, 7]⟩
theorem fine138 (N : Nat) : Fine (e138 N) N 138 Tryz.f138 ks138 rs138 (F138 N) :=
  ⟨Tryz.func138, by kernel_rfl, by kernel_rfl, by kernel_rfl, loops_of trivial, by kernel_rfl, by kernel_rfl, fun _ => by kernel_rfl⟩
theorem good138 (N : Nat) : Go.L.Good (e138 N) := good_of ⟨gd130 N, ⟨gd129 N, trivial⟩⟩
theorem gd138 (N : Nat) : CalOk Tryz.prog 138 (.full (mkFun ks138 rs138 (F138 N))) := mkFun_good (fine138 N) (good138 N)

/-! ### 203: wheel.class -/
def F203 (N : Nat) : Int × H → Option (Bool × H)
 | (a0, h) =>
 (if (decide (a0 ≥ 0)) = true then (
 some ((decide (a0 < 3)), h))
 else (
 some (false, h))).bind fun (b1, h2) =>
 some (b1, h2)
abbrev ks203 : List SK := [.one (.int .i64)]
abbrev rs203 : List SK := [.one .bool]
def e203 (N : Nat) : Env := ⟨Tryz.prog, 9, inTab [], inTab [], natTab [], inTab [], calTab [], altTab [], loopTab [], natTab [], inTab []⟩
theorem fine203 (N : Nat) : Fine (e203 N) N 203 Tryz.f203 ks203 rs203 (F203 N) :=
  ⟨Tryz.func203, by kernel_rfl, by kernel_rfl, by kernel_rfl, loops_of trivial, by kernel_rfl, by kernel_rfl, fun _ => by kernel_rfl⟩
theorem good203 (N : Nat) : Go.L.Good (e203 N) := good_of trivial
theorem gd203 : CalOk Tryz.prog 203 (.pure (mkP ks203 rs203 (F203 100))) := mkP_good (fine203 100) (good203 100) (by kernel_rfl) (by kernel_rfl)

/-! ### 139: wheel.Check -/
def L139_0 (N : Nat) : Nat → V × Int × Int × List V × H → Option (List V × H)
 | 0, _ => none
 | n + 1, (x11, x12, x13, cs14, h15) =>
 (if (decide (x13 < x12)) = true then (
 (sidx x11 x13 1).bind fun q16 =>
 (L.asInt .i64 (rd h15 q16 0)).bind fun x17 =>
 (F203 100 (x17, [])).bind fun (x18, _) =>
 (if (!x18) = true then (
 none)
 else (
 (if 0 ≤ x17 then (if x17 < 3 then (
 (if (0 + Int.toNat x17 * 1) + 1 ≤ (cs14).length then (
 L139_0 N n (x11, x12, (IntKind.i64.wrap (x13 + 1)), (splice cs14 (0 + Int.toNat x17 * 1) [(.bool true)]), h15)) else none)) else none) else none))))
 else (
 some (cs14, h15)))
def L139_1 (N : Nat) : Nat → Int × List V × H → Option (H)
 | 0, _ => none
 | n + 1, (x25, cs26, h27) =>
 (if (decide (x25 < 3)) = true then (
 (if 0 ≤ x25 then (if x25 < 3 then (
 (L.asBool cs26[((0 + Int.toNat x25 * 1) + 0)]?).bind fun x28 =>
 (if (!x28) = true then (
 none)
 else (
 L139_1 N n ((IntKind.i64.wrap (x25 + 1)), cs26, h27)))) else none) else none))
 else (
 some h27))
def F139 (N : Nat) : V × H → Option (Int × H)
 | (a0, h) =>
 (slen a0).bind fun n1 =>
 (if (decide (n1 > 64)) = true then (
 none)
 else (
 (slen a0).bind fun n2 =>
 (L139_0 N N (a0, n2, 0, [(.bool false), (.bool false), (.bool false)], h)).bind fun (cs19, h20) =>
 (L139_1 N N (0, cs19, h20)).bind fun h29 =>
 some (0, h29)))
abbrev ks139 : List SK := [.one .ref]
abbrev rs139 : List SK := [.one (.int .i64)]
def e139 (N : Nat) : Env := ⟨Tryz.prog, 30, inTab [3], inTab [], natTab [(3, 3), (20, 3), (26, 3)], inTab [], calTab [(203, .pure (mkP ks203 rs203 (F203 100)))], altTab [], loopTab [(5, ⟨⟨.normal, [3, 10, 11, 12], [.lp 3 0, .one .ref, .one (.int .i64), .one (.int .i64)], [3], [.blk]⟩, [⟨(.exit 0), [3], [.lp 3 0], [3], [.blk]⟩], L139_0 N⟩), (12, ⟨⟨.normal, [3, 22], [.lp 3 0, .one (.int .i64)], [3], [.blk]⟩, [⟨(.exit 2), [], [], [], []⟩], L139_1 N⟩)], natTab [], inTab [2, 8, 15]⟩
theorem l139_0 (N : Nat) : ∀ A, (e139 N).lp (lid (loopAt Tryz.f139 0)) = some A → LoopOk (e139 N) N (loopAt Tryz.f139 0) A :=
  loopOk_of (A := ⟨⟨.normal, [3, 10, 11, 12], [.lp 3 0, .one .ref, .one (.int .i64), .one (.int .i64)], [3], [.blk]⟩, [⟨(.exit 0), [3], [.lp 3 0], [3], [.blk]⟩], L139_0 N⟩) (by kernel_rfl) (fun _ => rfl) (fun _ _ => by kernel_rfl)
theorem l139_1 (N : Nat) : ∀ A, (e139 N).lp (lid (loopAt Tryz.f139 1)) = some A → LoopOk (e139 N) N (loopAt Tryz.f139 1) A :=
  loopOk_of (A := ⟨⟨.normal, [3, 22], [.lp 3 0, .one (.int .i64)], [3], [.blk]⟩, [⟨(.exit 2), [], [], [], []⟩], L139_1 N⟩) (by kernel_rfl) (fun _ => rfl) (fun _ _ => by kernel_rfl)
theorem fine139 (N : Nat) : Fine (e139 N) N 139 Tryz.f139 ks139 rs139 (F139 N) :=
  ⟨Tryz.func139, by kernel_rfl, by kernel_rfl, by kernel_rfl, loops_of ⟨l139_0 N, ⟨l139_1 N, trivial⟩⟩, by kernel_rfl, by kernel_rfl, fun _ => by kernel_rfl⟩
theorem good139 (N : Nat) : Go.L.Good (e139 N) := good_of ⟨gd203, trivial⟩
theorem gd139 (N : Nat) : CalOk Tryz.prog 139 (.ro (mkFun ks139 rs139 (F139 N))) := mkFun_ro (fine139 N) (good139 N) (by kernel_rfl)

/-! ### 140: slices.Clone[[]int,int] -/
def F140 (N : Nat) : V × H → Option (V × H)
 | (a0, h) =>
 (isNilS a0).bind fun b1 =>
 (if b1 = true then (
 some (.nils, h))
 else (
 (some (h ++ [O.cells 0 []]) : Option H).bind fun h2 =>
 (scells h2 a0 1).bind fun cs5 =>
 (happ h2 (.sl (h).length 0 0 0 1 (some 0)) 1 (snlen a0) cs5).bind fun (v3, h4) =>
 some (v3, h4)))
abbrev ks140 : List SK := [.one .ref]
abbrev rs140 : List SK := [.one .ref]
def e140 (N : Nat) : Env := ⟨Tryz.prog, 8, inTab [], inTab [], natTab [], inTab [], calTab [], altTab [], loopTab [], natTab [], inTab []⟩
theorem fine140 (N : Nat) : Fine (e140 N) N 140 Tryz.f140 ks140 rs140 (F140 N) :=
  ⟨Tryz.func140, by kernel_rfl, by kernel_rfl, by kernel_rfl, loops_of trivial, by kernel_rfl, by kernel_rfl, fun _ => by kernel_rfl⟩
theorem good140 (N : Nat) : Go.L.Good (e140 N) := good_of trivial
theorem gd140 (N : Nat) : CalOk Tryz.prog 140 (.full (mkFun ks140 rs140 (F140 N))) := mkFun_good (fine140 N) (good140 N)
theorem gl140 (N : Nat) : CalOk Tryz.prog 140 (.gro (mkFun ks140 rs140 (locF true ks140 rs140 (F140 N)))) := loc_gro (gd140 N)

/-! ### 141: tie.New -/
def F141 (N : Nat) : H → Option (V × H)
 | h =>
 (some (h ++ [O.map 0 [] []]) : Option H).bind fun h1 =>
 (some (h1 ++ [O.map 0 [] []]) : Option H).bind fun h2 =>
 (ck1 (.map (h).length)).bind fun _ =>
 (ck1 (.map (h1).length)).bind fun _ =>
 (some (h2 ++ [O.cells 0 [(.map (h).length), (.map (h1).length)]]) : Option H).bind fun h3 =>
 some ((.ptr (h2).length 0 0), h3)
abbrev ks141 : List SK := []
abbrev rs141 : List SK := [.one .ref]
def e141 (N : Nat) : Env := ⟨Tryz.prog, 5, inTab [], inTab [], natTab [], inTab [], calTab [], altTab [], loopTab [], natTab [], inTab []⟩
theorem fine141 (N : Nat) : Fine (e141 N) N 141 Tryz.f141 ks141 rs141 (F141 N) :=
  ⟨Tryz.func141, by kernel_rfl, by kernel_rfl, by kernel_rfl, loops_of trivial, by kernel_rfl, by kernel_rfl, fun _ => by kernel_rfl⟩
theorem good141 (N : Nat) : Go.L.Good (e141 N) := good_of trivial
theorem gdg141 (N : Nat) : CalOk Tryz.prog 141 (.gro (mkFun ks141 rs141 (F141 N))) := mkFun_groC (fine141 N) (good141 N) (by kernel_rfl)

/-! ### 142: table.New -/
def F142 (N : Nat) : Int × H → Option (V × Int × H)
 | (a0, h) =>
 (if (decide (a0 < 1)) = true then (
 some (true, h))
 else (
 some ((decide (a0 > 256)), h))).bind fun (b1, h2) =>
 (if b1 = true then (
 none)
 else (
 (if 0 ≤ a0 then (if a0 ≤ a0 then (if a0 * ((3 : Nat) : Int) ≤ ((mostCells : Nat) : Int) then (
 (some (h2 ++ [O.cells 0 (repeatC (Int.toNat a0) [(.int .i64 0), (.bool false), (.str (ByteArray.mk #[]))])]) : Option H).bind fun h3 =>
 (some (h3 ++ [O.map 0 [] []]) : Option H).bind fun h4 =>
 (ck1 (.sl (h2).length 0 0 (Int.toNat a0) 3 (some (Int.toNat a0)))).bind fun _ =>
 (ck1 (.map (h3).length)).bind fun _ =>
 (some (h4 ++ [O.cells 0 [(.sl (h2).length 0 0 (Int.toNat a0) 3 (some (Int.toNat a0))), (.map (h3).length)]]) : Option H).bind fun h5 =>
 some ((.ptr (h4).length 0 0), 0, h5)) else none) else none) else none)))
abbrev ks142 : List SK := [.one (.int .i64)]
abbrev rs142 : List SK := [.one .ref, .one (.int .i64)]
def e142 (N : Nat) : Env := ⟨Tryz.prog, 15, inTab [], inTab [], natTab [], inTab [], calTab [], altTab [], loopTab [], natTab [], inTab [2]⟩
theorem fine142 (N : Nat) : Fine (e142 N) N 142 Tryz.f142 ks142 rs142 (F142 N) :=
  ⟨Tryz.func142, by kernel_rfl, by kernel_rfl, by kernel_rfl, loops_of trivial, by kernel_rfl, by kernel_rfl, fun _ => by kernel_rfl⟩
theorem good142 (N : Nat) : Go.L.Good (e142 N) := good_of trivial
theorem gdg142 (N : Nat) : CalOk Tryz.prog 142 (.gro (mkFun ks142 rs142 (F142 N))) := mkFun_groC (fine142 N) (good142 N) (by kernel_rfl)

/-! ### 143: homes.New -/
def F143 (N : Nat) : Int × H → Option (V × Int × H)
 | (a0, h) =>
 (if (decide (a0 < 1)) = true then (
 some (true, h))
 else (
 some ((decide (a0 > 16)), h))).bind fun (b1, h2) =>
 (if b1 = true then (
 none)
 else (
 (some (h2 ++ [O.cells 0 ((.int .i64 a0) :: List.replicate 48 (.int .i64 0))]) : Option H).bind fun h3 =>
 some ((.ptr (h2).length 0 0), 0, h3)))
abbrev ks143 : List SK := [.one (.int .i64)]
abbrev rs143 : List SK := [.one .ref, .one (.int .i64)]
def e143 (N : Nat) : Env := ⟨Tryz.prog, 13, inTab [], inTab [], natTab [], inTab [], calTab [], altTab [], loopTab [], natTab [], inTab [2]⟩
theorem fine143 (N : Nat) : Fine (e143 N) N 143 Tryz.f143 ks143 rs143 (F143 N) :=
  ⟨Tryz.func143, by kernel_rfl, by kernel_rfl, by kernel_rfl, loops_of trivial, by kernel_rfl, by kernel_rfl, fun _ => by kernel_rfl⟩
theorem good143 (N : Nat) : Go.L.Good (e143 N) := good_of trivial
theorem gdg143 (N : Nat) : CalOk Tryz.prog 143 (.gro (mkFun ks143 rs143 (F143 N))) := mkFun_groC (fine143 N) (good143 N) (by kernel_rfl)

/-! ### 144: log.New -/
def F144 (N : Nat) : Int × H → Option (V × Int × H)
 | (a0, h) =>
 (if (decide (a0 < 1)) = true then (
 some (true, h))
 else (
 some ((decide (a0 > 4096)), h))).bind fun (b1, h2) =>
 (if b1 = true then (
 none)
 else (
 (some (h2 ++ [O.cells 0 ((.int .i64 a0) :: .nils :: List.replicate 34 (.int .i64 0))]) : Option H).bind fun h3 =>
 some ((.ptr (h2).length 0 0), 0, h3)))
abbrev ks144 : List SK := [.one (.int .i64)]
abbrev rs144 : List SK := [.one .ref, .one (.int .i64)]
def e144 (N : Nat) : Env := ⟨Tryz.prog, 13, inTab [], inTab [], natTab [], inTab [], calTab [], altTab [], loopTab [], natTab [], inTab [2]⟩
theorem fine144 (N : Nat) : Fine (e144 N) N 144 Tryz.f144 ks144 rs144 (F144 N) :=
  ⟨Tryz.func144, by kernel_rfl, by kernel_rfl, by kernel_rfl, loops_of trivial, by kernel_rfl, by kernel_rfl, fun _ => by kernel_rfl⟩
theorem good144 (N : Nat) : Go.L.Good (e144 N) := good_of trivial
theorem gdg144 (N : Nat) : CalOk Tryz.prog 144 (.gro (mkFun ks144 rs144 (F144 N))) := mkFun_groC (fine144 N) (good144 N) (by kernel_rfl)

/-! ### 344: api.Entry] -/
def F344 (N : Nat) : Int × H → Option (V × Int × H)
 | (a0, h) =>
 (if (decide (a0 < 1)) = true then (
 some (true, h))
 else (
 some ((decide (a0 > 65536)), h))).bind fun (b1, h2) =>
 (if b1 = true then (
 none)
 else (
 (some (h2 ++ [O.cells 0 [(.int .i64 a0), .nils]]) : Option H).bind fun h3 =>
 some ((.ptr (h2).length 0 0), 0, h3)))
abbrev ks344 : List SK := [.one (.int .i64)]
abbrev rs344 : List SK := [.one .ref, .one (.int .i64)]
def e344 (N : Nat) : Env := ⟨Tryz.prog, 13, inTab [], inTab [], natTab [], inTab [], calTab [], altTab [], loopTab [], natTab [], inTab [2]⟩
theorem fine344 (N : Nat) : Fine (e344 N) N 344 Tryz.f344 ks344 rs344 (F344 N) :=
  ⟨Tryz.func344, by kernel_rfl, by kernel_rfl, by kernel_rfl, loops_of trivial, by kernel_rfl, by kernel_rfl, fun _ => by kernel_rfl⟩
theorem good344 (N : Nat) : Go.L.Good (e344 N) := good_of trivial
theorem gdg344 (N : Nat) : CalOk Tryz.prog 344 (.gro (mkFun ks344 rs344 (F344 N))) := mkFun_groC (fine344 N) (good344 N) (by kernel_rfl)

/-! ### 375: api.Entry]).lives -/
def F375 (N : Nat) : V × H → Option (Bool × H)
 | (a0, h) =>
 (isNil a0).bind fun b1 =>
 (if (!b1) = true then (
 (nck a0).bind fun _ =>
 (L.asInt .i64 (rd h (padd a0 0) 0)).bind fun x4 =>
 some ((decide (x4 > 0)), h))
 else (
 some (false, h))).bind fun (b2, h3) =>
 some (b2, h3)
abbrev ks375 : List SK := [.one .ref]
abbrev rs375 : List SK := [.one .bool]
def e375 (N : Nat) : Env := ⟨Tryz.prog, 12, inTab [], inTab [], natTab [], inTab [], calTab [], altTab [], loopTab [], natTab [], inTab []⟩
theorem fine375 (N : Nat) : Fine (e375 N) N 375 Tryz.f375 ks375 rs375 (F375 N) :=
  ⟨Tryz.func375, by kernel_rfl, by kernel_rfl, by kernel_rfl, loops_of trivial, by kernel_rfl, by kernel_rfl, fun _ => by kernel_rfl⟩
theorem good375 (N : Nat) : Go.L.Good (e375 N) := good_of trivial
theorem gd375 (N : Nat) : CalOk Tryz.prog 375 (.ro (mkFun ks375 rs375 (F375 N))) := mkFun_ro (fine375 N) (good375 N) (by kernel_rfl)

/-! ### 417: api.Entry]).Room -/
def F417 (N : Nat) : V × H → Option (Int × H)
 | (a0, h) =>
 (F375 N (a0, h)).bind fun (x1, _) =>
 (if (!x1) = true then (
 none)
 else (
 (nck a0).bind fun _ =>
 (L.asInt .i64 (rd h (padd a0 0) 0)).bind fun x2 =>
 (nck a0).bind fun _ =>
 ((rd h (padd a0 1) 0)).bind fun x3 =>
 (slen x3).bind fun n4 =>
 some ((IntKind.i64.wrap (x2 - n4)), h)))
abbrev ks417 : List SK := [.one .ref]
abbrev rs417 : List SK := [.one (.int .i64)]
def e417 (N : Nat) : Env := ⟨Tryz.prog, 16, inTab [], inTab [], natTab [], inTab [], calTab [(375, .ro (mkFun ks375 rs375 (F375 N)))], altTab [], loopTab [], natTab [], inTab [2]⟩
theorem fine417 (N : Nat) : Fine (e417 N) N 417 Tryz.f417 ks417 rs417 (F417 N) :=
  ⟨Tryz.func417, by kernel_rfl, by kernel_rfl, by kernel_rfl, loops_of trivial, by kernel_rfl, by kernel_rfl, fun _ => by kernel_rfl⟩
theorem good417 (N : Nat) : Go.L.Good (e417 N) := good_of ⟨gd375 N, trivial⟩
theorem gd417 (N : Nat) : CalOk Tryz.prog 417 (.ro (mkFun ks417 rs417 (F417 N))) := mkFun_ro (fine417 N) (good417 N) (by kernel_rfl)

/-! ### 345: api.Entry]).Join -/
def F345 (N : Nat) : V × V × H → Option (Int × H)
 | (a0, a1, h) =>
 (F375 N (a0, h)).bind fun (x1, _) =>
 (if (!x1) = true then (
 none)
 else (
 (slen a1).bind fun n2 =>
 (F417 N (a0, h)).bind fun (x3, _) =>
 (if (decide (n2 > x3)) = true then (
 none)
 else (
 (nck a0).bind fun _ =>
 ((rd h (padd a0 1) 0)).bind fun x4 =>
 (scells h a1 3).bind fun cs7 =>
 (happ h x4 3 (snlen a1) cs7).bind fun (v5, h6) =>
 (nck a0).bind fun _ =>
 (ck1 v5).bind fun _ =>
 (wr h6 (padd a0 1) [v5]).bind fun h8 =>
 some (0, h8)))))
abbrev ks345 : List SK := [.one .ref, .one .ref]
abbrev rs345 : List SK := [.one (.int .i64)]
def e345 (N : Nat) : Env := ⟨Tryz.prog, 22, inTab [], inTab [], natTab [], inTab [], calTab [(375, .ro (mkFun ks375 rs375 (F375 N))), (417, .ro (mkFun ks417 rs417 (F417 N)))], altTab [], loopTab [], natTab [], inTab [2, 4]⟩
theorem fine345 (N : Nat) : Fine (e345 N) N 345 Tryz.f345 ks345 rs345 (F345 N) :=
  ⟨Tryz.func345, by kernel_rfl, by kernel_rfl, by kernel_rfl, loops_of trivial, by kernel_rfl, by kernel_rfl, fun _ => by kernel_rfl⟩
theorem good345 (N : Nat) : Go.L.Good (e345 N) := good_of ⟨gd375 N, ⟨gd417 N, trivial⟩⟩
theorem gd345 (N : Nat) : CalOk Tryz.prog 345 (.full (mkFun ks345 rs345 (F345 N))) := mkFun_good (fine345 N) (good345 N)

/-! ### 262: core.filled -/
def F262 (N : Nat) : V × H → Option (V × H)
 | (a0, h) =>
 (F344 N (64, h)).bind fun (x1, x2, h3) =>
 (F345 N (x1, a0, h3)).bind fun (x4, h5) =>
 (ck1 x1).bind fun _ =>
 some (x1, h5)
abbrev ks262 : List SK := [.one .ref]
abbrev rs262 : List SK := [.agg [.ref]]
def e262 (N : Nat) : Env := ⟨Tryz.prog, 14, inTab [2], inTab [], natTab [(2, 2)], inTab [], calTab [(344, .gro (mkFun ks344 rs344 (F344 N))), (345, .full (mkFun ks345 rs345 (F345 N)))], altTab [], loopTab [], natTab [], inTab []⟩
theorem fine262 (N : Nat) : Fine (e262 N) N 262 Tryz.f262 ks262 rs262 (F262 N) :=
  ⟨Tryz.func262, by kernel_rfl, by kernel_rfl, by kernel_rfl, loops_of trivial, by kernel_rfl, by kernel_rfl, fun _ => by kernel_rfl⟩
theorem good262 (N : Nat) : Go.L.Good (e262 N) := good_of ⟨gdg344 N, ⟨gd345 N, trivial⟩⟩
theorem gd262 (N : Nat) : CalOk Tryz.prog 262 (.full (mkFun ks262 rs262 (F262 N))) := mkFun_good (fine262 N) (good262 N)

/-! ### 204: core.Load -/
def L204_1 (N : Nat) : Nat → V × Int × Bool × List V × Int × Int × Int × List V × H → Option (V × Int × Bool × List V × Int × List V × H)
 | 0, _ => none
 | n + 1, (x25, x26, x27, cs28, x29, x30, x31, cs32, h33) =>
 (if (decide (x31 < x30)) = true then (
 none)
 else (
 some (x25, x26, x27, cs28, x29, cs32, h33)))
def L204_0 (N : Nat) : Nat → V × Int × Bool × List V × Int × List V × H → Option (V × Int × Bool × List V × H)
 | 0, _ => none
 | n + 1, (x41, x42, x43, cs44, x45, cs46, h47) =>
 (if (decide (x45 < 3)) = true then (
 (if 0 ≤ x45 then (if x45 < 3 then (
 ((cs44)[Int.toNat x45 * 1]?).bind fun x48 =>
 (if x43 = true then (
 some (true, h47))
 else (
 (slen x48).bind fun n51 =>
 some ((decide (n51 > 64)), h47))).bind fun (b49, h50) =>
 (slen x48).bind fun n52 =>
 (L204_1 N N (x41, x42, b49, cs44, x45, n52, 0, cs46, h50)).bind fun (x53, x54, x55, cs56, x57, cs58, h59) =>
 L204_0 N n (x53, x54, x55, cs56, (IntKind.i64.wrap (x57 + 1)), cs58, h59)) else none) else none))
 else (
 some (x41, x42, x43, cs46, h47)))
def L204_2 (N : Nat) : Nat → V × List V × Int × H → Option (V × H)
 | 0, _ => none
 | n + 1, (x81, cs82, x83, h84) =>
 (if (decide (x83 < 3)) = true then (
 (if 0 ≤ x83 then (if x83 < 3 then (
 ((cs82)[Int.toNat x83 * 1]?).bind fun x85 =>
 (F262 N (x85, h84)).bind fun (x86, h87) =>
 (nck x81).bind fun _ =>
 (aidx (padd x81 2) x83 3 1).bind fun q88 =>
 (wr h87 q88 [x86]).bind fun h89 =>
 L204_2 N n (x81, cs82, (IntKind.i64.wrap (x83 + 1)), h89)) else none) else none))
 else (
 some (x81, h84)))
def F204 (N : Nat) : V × Int × List V × H → Option (V × Int × H)
 | (a0, a1, a2, h) =>
 (if (a2).length = 3 then (
 (F139 N (a0, h)).bind fun (x1, _) =>
 (if (x1 != 0) = true then (
 none)
 else (
 (some (h ++ [O.map 0 [] []]) : Option H).bind fun h2 =>
 ((if 0 + 3 ≤ (a2).length then some (((a2).drop 0).take 3) else none) : Option (List V)).bind fun cs3 =>
 (L204_0 N N (a0, a1, false, cs3, 0, a2, h2)).bind fun (x60, x61, x62, cs63, h64) =>
 (if (decide (x61 < 0)) = true then (
 some (true, h64))
 else (
 (slen x60).bind fun n67 =>
 some ((decide (x61 ≥ n67)), h64))).bind fun (b65, h66) =>
 (if b65 = true then (
 none)
 else (
 (if x62 = true then (
 none)
 else (
 Option.bind (α := (V × H)) (locF true ks140 rs140 (F140 N) ((x60, h66) : V × H)) fun (x68, h69) =>
 (ck1 x68).bind fun _ =>
 (some (h69 ++ [O.cells 0 [x68, (.int .i64 x61), .nilp, .nilp, .nilp]]) : Option H).bind fun h70 =>
 ((if 0 + 3 ≤ (cs63).length then some (((cs63).drop 0).take 3) else none) : Option (List V)).bind fun cs71 =>
 (L204_2 N N ((.ptr (h69).length 0 0), cs71, 0, h70)).bind fun (x90, h91) =>
 some (x90, 0, h91)))))))) else none)
abbrev ks204 : List SK := [.one .ref, .one (.int .i64), .blk]
abbrev rs204 : List SK := [.one .ref, .one (.int .i64)]
def e204 (N : Nat) : Env := ⟨Tryz.prog, 84, inTab [5, 14], inTab [], natTab [(5, 5), (14, 14), (41, 14), (48, 14)], inTab [], calTab [(139, .ro (mkFun ks139 rs139 (F139 N))), (140, .gro (mkFun ks140 rs140 (locF true ks140 rs140 (F140 N)))), (262, .full (mkFun ks262 rs262 (F262 N)))], altTab [], loopTab [(7, ⟨⟨.normal, [0, 1, 5, 10, 24, 25], [.one .ref, .one (.int .i64), .lp 5 0, .one .bool, .blk, .one (.int .i64)], [5], [.blk]⟩, [⟨(.exit 0), [0, 1, 5, 10], [.one .ref, .one (.int .i64), .lp 5 0, .one .bool], [5], [.blk]⟩], L204_0 N⟩), (11, ⟨⟨.normal, [0, 1, 5, 10, 24, 25, 35, 36], [.one .ref, .one (.int .i64), .lp 5 0, .one .bool, .blk, .one (.int .i64), .one (.int .i64), .one (.int .i64)], [5], [.blk]⟩, [⟨(.exit 2), [0, 1, 5, 10, 24, 25], [.one .ref, .one (.int .i64), .lp 5 0, .one .bool, .blk, .one (.int .i64)], [5], [.blk]⟩], L204_1 N⟩), (24, ⟨⟨.normal, [15, 70, 71], [.one .ref, .blk, .one (.int .i64)], [], []⟩, [⟨(.exit 5), [15], [.one .ref], [], []⟩], L204_2 N⟩)], natTab [], inTab [3, 12, 13, 14, 15, 16, 19, 21]⟩
theorem l204_0 (N : Nat) : ∀ A, (e204 N).lp (lid (loopAt Tryz.f204 0)) = some A → LoopOk (e204 N) N (loopAt Tryz.f204 0) A :=
  loopOk_of (A := ⟨⟨.normal, [0, 1, 5, 10, 24, 25], [.one .ref, .one (.int .i64), .lp 5 0, .one .bool, .blk, .one (.int .i64)], [5], [.blk]⟩, [⟨(.exit 0), [0, 1, 5, 10], [.one .ref, .one (.int .i64), .lp 5 0, .one .bool], [5], [.blk]⟩], L204_0 N⟩) (by kernel_rfl) (fun _ => rfl) (fun _ _ => by kernel_rfl)
theorem l204_1 (N : Nat) : ∀ A, (e204 N).lp (lid (loopAt Tryz.f204 1)) = some A → LoopOk (e204 N) N (loopAt Tryz.f204 1) A :=
  loopOk_of (A := ⟨⟨.normal, [0, 1, 5, 10, 24, 25, 35, 36], [.one .ref, .one (.int .i64), .lp 5 0, .one .bool, .blk, .one (.int .i64), .one (.int .i64), .one (.int .i64)], [5], [.blk]⟩, [⟨(.exit 2), [0, 1, 5, 10, 24, 25], [.one .ref, .one (.int .i64), .lp 5 0, .one .bool, .blk, .one (.int .i64)], [5], [.blk]⟩], L204_1 N⟩) (by kernel_rfl) (fun _ => rfl) (fun _ _ => by kernel_rfl)
theorem l204_2 (N : Nat) : ∀ A, (e204 N).lp (lid (loopAt Tryz.f204 2)) = some A → LoopOk (e204 N) N (loopAt Tryz.f204 2) A :=
  loopOk_of (A := ⟨⟨.normal, [15, 70, 71], [.one .ref, .blk, .one (.int .i64)], [], []⟩, [⟨(.exit 5), [15], [.one .ref], [], []⟩], L204_2 N⟩) (by kernel_rfl) (fun _ => rfl) (fun _ _ => by kernel_rfl)
theorem fine204 (N : Nat) : Fine (e204 N) N 204 Tryz.f204 ks204 rs204 (F204 N) :=
  ⟨Tryz.func204, by kernel_rfl, by kernel_rfl, by kernel_rfl, loops_of ⟨l204_0 N, ⟨l204_1 N, ⟨l204_2 N, trivial⟩⟩⟩, by kernel_rfl, by kernel_rfl, fun _ => by kernel_rfl⟩
theorem good204 (N : Nat) : Go.L.Good (e204 N) := good_of ⟨gd139 N, ⟨gl140 N, ⟨gd262 N, trivial⟩⟩⟩
theorem gd204 (N : Nat) : CalOk Tryz.prog 204 (.full (mkFun ks204 rs204 (F204 N))) := mkFun_good (fine204 N) (good204 N)

/-! ### 145: core.New -/
def F145 (N : Nat) : V × H → Option (V × Int × H)
 | (a0, h) =>
 (F204 N (a0, 0, [.nils, .nils, .nils], h)).bind fun (x1, x2, h3) =>
 some (x1, x2, h3)
abbrev ks145 : List SK := [.one .ref]
abbrev rs145 : List SK := [.one .ref, .one (.int .i64)]
def e145 (N : Nat) : Env := ⟨Tryz.prog, 9, inTab [], inTab [], natTab [], inTab [], calTab [(204, .full (mkFun ks204 rs204 (F204 N)))], altTab [], loopTab [], natTab [], inTab []⟩
theorem fine145 (N : Nat) : Fine (e145 N) N 145 Tryz.f145 ks145 rs145 (F145 N) :=
  ⟨Tryz.func145, by kernel_rfl, by kernel_rfl, by kernel_rfl, loops_of trivial, by kernel_rfl, by kernel_rfl, fun _ => by kernel_rfl⟩
theorem good145 (N : Nat) : Go.L.Good (e145 N) := good_of ⟨gd204 N, trivial⟩
theorem gd145 (N : Nat) : CalOk Tryz.prog 145 (.full (mkFun ks145 rs145 (F145 N))) := mkFun_good (fine145 N) (good145 N)

/-! ### 146: timer.New -/
def F146 (N : Nat) : Int × H → Option (V × Int × H)
 | (a0, h) =>
 (if (decide (a0 < 0)) = true then (
 some (true, h))
 else (
 some ((decide (a0 > 4611686018426339327)), h))).bind fun (b1, h2) =>
 (if b1 = true then (
 none)
 else (
 (some (h2 ++ [O.cells 0 ((.bool true) :: (.int .i64 a0) :: (.int .i64 0) :: List.replicate 257 .nils)]) : Option H).bind fun h3 =>
 some ((.ptr (h2).length 0 0), 0, h3)))
abbrev ks146 : List SK := [.one (.int .i64)]
abbrev rs146 : List SK := [.one .ref, .one (.int .i64)]
def e146 (N : Nat) : Env := ⟨Tryz.prog, 13, inTab [], inTab [], natTab [], inTab [], calTab [], altTab [], loopTab [], natTab [], inTab [2]⟩
theorem fine146 (N : Nat) : Fine (e146 N) N 146 Tryz.f146 ks146 rs146 (F146 N) :=
  ⟨Tryz.func146, by kernel_rfl, by kernel_rfl, by kernel_rfl, loops_of trivial, by kernel_rfl, by kernel_rfl, fun _ => by kernel_rfl⟩
theorem good146 (N : Nat) : Go.L.Good (e146 N) := good_of trivial
theorem gdg146 (N : Nat) : CalOk Tryz.prog 146 (.gro (mkFun ks146 rs146 (F146 N))) := mkFun_groC (fine146 N) (good146 N) (by kernel_rfl)

/-! ### 73: node.New -/
def L73_0 (N : Nat) : Nat → V × V × Int × Int × H → Option (V × H)
 | 0, _ => none
 | n + 1, (x37, x38, x39, x40, h41) =>
 (if (decide (x40 < x39)) = true then (
 (F145 N (x37, h41)).bind fun (x42, x43, h44) =>
 (F146 N (0, h44)).bind fun (x45, x46, h47) =>
 (nck x38).bind fun _ =>
 ((rd h47 (padd x38 5) 0)).bind fun x48 =>
 (ck1 x42).bind fun _ =>
 (ck1 x45).bind fun _ =>
 (happ h47 x48 4 1 [x42, x45, (.int .i64 0), (.int .i64 0)]).bind fun (v49, h50) =>
 (nck x38).bind fun _ =>
 (ck1 v49).bind fun _ =>
 (wr h50 (padd x38 5) [v49]).bind fun h51 =>
 L73_0 N n (x37, x38, x39, (IntKind.i64.wrap (x40 + 1)), h51))
 else (
 some (x38, h41)))
def F73 (N : Nat) : Int × V × H → Option (V × Int × H)
 | (a0, a1, h) =>
 (if (decide (a0 < 1)) = true then (
 some (true, h))
 else (
 some ((decide (a0 > 16)), h))).bind fun (b1, h2) =>
 (if b1 = true then (
 none)
 else (
 (F139 N (a1, h2)).bind fun (x3, _) =>
 (if (x3 != 0) = true then (
 none)
 else (
 Option.bind (α := (V × H)) (locF true ks140 rs140 (F140 N) ((a1, h2) : V × H)) fun (x4, h5) =>
 (F141 N h5).bind fun (x6, h7) =>
 (some (h7 ++ [O.map 0 [] []]) : Option H).bind fun h8 =>
 (ck1 x4).bind fun _ =>
 (ck1 x6).bind fun _ =>
 (ck1 (.map (h7).length)).bind fun _ =>
 (some (h8 ++ [O.cells 0 [x4, .nils, .nilp, .nilp, x6, .nils, (.map (h7).length), (.int .i64 0), (.int .i64 1), .nils, .nilp, .nils, (.int .i64 0), .nils]]) : Option H).bind fun h9 =>
 (F142 N (256, h9)).bind fun (x10, x11, h12) =>
 (ck1 x10).bind fun _ =>
 (wr h12 (.ptr (h8).length 0 2) [x10]).bind fun h13 =>
 (F143 N (a0, h13)).bind fun (x14, x15, h16) =>
 (ck1 x14).bind fun _ =>
 (wr h16 (.ptr (h8).length 0 3) [x14]).bind fun h17 =>
 (F144 N (4096, h17)).bind fun (x18, x19, h20) =>
 (ck1 x18).bind fun _ =>
 (wr h20 (.ptr (h8).length 0 10) [x18]).bind fun h21 =>
 (L73_0 N N (a1, (.ptr (h8).length 0 0), a0, 0, h21)).bind fun (x52, h53) =>
 some (x52, 0, h53)))))
abbrev ks73 : List SK := [.one (.int .i64), .one .ref]
abbrev rs73 : List SK := [.one .ref, .one (.int .i64)]
def e73 (N : Nat) : Env := ⟨Tryz.prog, 77, inTab [71], inTab [], natTab [], inTab [], calTab [(139, .ro (mkFun ks139 rs139 (F139 N))), (140, .gro (mkFun ks140 rs140 (locF true ks140 rs140 (F140 N)))), (141, .gro (mkFun ks141 rs141 (F141 N))), (142, .gro (mkFun ks142 rs142 (F142 N))), (143, .gro (mkFun ks143 rs143 (F143 N))), (144, .gro (mkFun ks144 rs144 (F144 N))), (145, .full (mkFun ks145 rs145 (F145 N))), (146, .gro (mkFun ks146 rs146 (F146 N)))], altTab [], loopTab [(11, ⟨⟨.normal, [1, 7, 51, 52], [.one .ref, .one .ref, .one (.int .i64), .one (.int .i64)], [], []⟩, [⟨(.exit 0), [7], [.one .ref], [], []⟩], L73_0 N⟩)], natTab [], inTab [2, 5]⟩
theorem l73_0 (N : Nat) : ∀ A, (e73 N).lp (lid (loopAt Tryz.f73 0)) = some A → LoopOk (e73 N) N (loopAt Tryz.f73 0) A :=
  loopOk_of (A := ⟨⟨.normal, [1, 7, 51, 52], [.one .ref, .one .ref, .one (.int .i64), .one (.int .i64)], [], []⟩, [⟨(.exit 0), [7], [.one .ref], [], []⟩], L73_0 N⟩) (by kernel_rfl) (fun _ => rfl) (fun _ _ => by kernel_rfl)
theorem fine73 (N : Nat) : Fine (e73 N) N 73 Tryz.f73 ks73 rs73 (F73 N) :=
  ⟨Tryz.func73, by kernel_rfl, by kernel_rfl, by kernel_rfl, loops_of ⟨l73_0 N, trivial⟩, by kernel_rfl, by kernel_rfl, fun _ => by kernel_rfl⟩
theorem good73 (N : Nat) : Go.L.Good (e73 N) := good_of ⟨gd139 N, ⟨gl140 N, ⟨gdg141 N, ⟨gdg142 N, ⟨gdg143 N, ⟨gdg144 N, ⟨gd145 N, ⟨gdg146 N, trivial⟩⟩⟩⟩⟩⟩⟩⟩
theorem gd73 (N : Nat) : CalOk Tryz.prog 73 (.full (mkFun ks73 rs73 (F73 N))) := mkFun_good (fine73 N) (good73 N)
theorem gl73 (N : Nat) : CalOk Tryz.prog 73 (.full (mkFun ks73 rs73 (locF false ks73 rs73 (F73 N)))) := loc_full (gd73 N)

/-! ### 213: node.Node).lives -/
def F213 (N : Nat) : V × H → Option (Bool × H)
 | (a0, h) =>
 (isNil a0).bind fun b1 =>
 (if (!b1) = true then (
 (nck a0).bind fun _ =>
 ((rd h (padd a0 5) 0)).bind fun x4 =>
 (slen x4).bind fun n5 =>
 some ((decide (n5 > 0)), h))
 else (
 some (false, h))).bind fun (b2, h3) =>
 some (b2, h3)
abbrev ks213 : List SK := [.one .ref]
abbrev rs213 : List SK := [.one .bool]
def e213 (N : Nat) : Env := ⟨Tryz.prog, 13, inTab [], inTab [], natTab [], inTab [], calTab [], altTab [], loopTab [], natTab [], inTab []⟩
theorem fine213 (N : Nat) : Fine (e213 N) N 213 Tryz.f213 ks213 rs213 (F213 N) :=
  ⟨Tryz.func213, by kernel_rfl, by kernel_rfl, by kernel_rfl, loops_of trivial, by kernel_rfl, by kernel_rfl, fun _ => by kernel_rfl⟩
theorem good213 (N : Nat) : Go.L.Good (e213 N) := good_of trivial
theorem gd213 (N : Nat) : CalOk Tryz.prog 213 (.ro (mkFun ks213 rs213 (F213 N))) := mkFun_ro (fine213 N) (good213 N) (by kernel_rfl)

/-! ### 263: node.Node).refused -/
def F263 (N : Nat) : V × H → Option (Int × H)
 | (a0, h) =>
 (F213 N (a0, h)).bind fun (x1, _) =>
 (if (!x1) = true then (
 none)
 else (
 (nck a0).bind fun _ =>
 ((rd h (padd a0 11) 0)).bind fun x2 =>
 (slen x2).bind fun n3 =>
 (if (decide (n3 ≥ 65536)) = true then (
 none)
 else (
 some (0, h)))))
abbrev ks263 : List SK := [.one .ref]
abbrev rs263 : List SK := [.one (.int .i64)]
def e263 (N : Nat) : Env := ⟨Tryz.prog, 12, inTab [], inTab [], natTab [], inTab [], calTab [(213, .ro (mkFun ks213 rs213 (F213 N)))], altTab [], loopTab [], natTab [], inTab [2, 4]⟩
theorem fine263 (N : Nat) : Fine (e263 N) N 263 Tryz.f263 ks263 rs263 (F263 N) :=
  ⟨Tryz.func263, by kernel_rfl, by kernel_rfl, by kernel_rfl, loops_of trivial, by kernel_rfl, by kernel_rfl, fun _ => by kernel_rfl⟩
theorem good263 (N : Nat) : Go.L.Good (e263 N) := good_of ⟨gd213 N, trivial⟩
theorem gd263 (N : Nat) : CalOk Tryz.prog 263 (.ro (mkFun ks263 rs263 (F263 N))) := mkFun_ro (fine263 N) (good263 N) (by kernel_rfl)

/-! ### 310: term.atom -/
def L310_0 (N : Nat) : Nat → ByteArray × Int × H → Option (H)
 | 0, _ => none
 | n + 1, (x27, x28, h29) =>
 (if (decide (x28 < ((x27).size : Int))) = true then (
 (if 0 ≤ x28 then (x27[Int.toNat x28]?.bind fun c30 =>
 (if (decide (((UInt8.toNat c30 : Nat) : Int) ≥ 97)) = true then (
 some ((decide (((UInt8.toNat c30 : Nat) : Int) ≤ 122)), h29))
 else (
 some (false, h29))).bind fun (b31, h32) =>
 (if b31 = true then (
 some (true, h32))
 else (
 (if (decide (x28 > 0)) = true then (
 (if (decide (((UInt8.toNat c30 : Nat) : Int) ≥ 65)) = true then (
 some ((decide (((UInt8.toNat c30 : Nat) : Int) ≤ 90)), h32))
 else (
 some (false, h32))).bind fun (b37, h38) =>
 (if b37 = true then (
 some (true, h38))
 else (
 (if (decide (((UInt8.toNat c30 : Nat) : Int) ≥ 48)) = true then (
 some ((decide (((UInt8.toNat c30 : Nat) : Int) ≤ 57)), h38))
 else (
 some (false, h38))).bind fun (b41, h42) =>
 some (b41, h42))).bind fun (b39, h40) =>
 (if b39 = true then (
 some (true, h40))
 else (
 some ((((UInt8.toNat c30 : Nat) : Int) == 95), h40))).bind fun (b43, h44) =>
 some (b43, h44))
 else (
 some (false, h32))).bind fun (b35, h36) =>
 some (b35, h36))).bind fun (b33, h34) =>
 (if b33 = true then (
 L310_0 N n (x27, (IntKind.i64.wrap (x28 + 1)), h34))
 else (
 none))) else none))
 else (
 some h29))
def F310 (N : Nat) : ByteArray × H → Option (Bool × H)
 | (a0, h) =>
 (if (decide (((a0).size : Int) < 1)) = true then (
 some (true, h))
 else (
 some ((decide (((a0).size : Int) > 64)), h))).bind fun (b1, h2) =>
 (if b1 = true then (
 some (true, h2))
 else (
 some (((a0).toList == ((ByteArray.mk #[110, 105, 108])).toList), h2))).bind fun (b3, h4) =>
 (if b3 = true then (
 some (true, h4))
 else (
 some (((a0).toList == ((ByteArray.mk #[116, 114, 117, 101])).toList), h4))).bind fun (b5, h6) =>
 (if b5 = true then (
 some (true, h6))
 else (
 some (((a0).toList == ((ByteArray.mk #[102, 97, 108, 115, 101])).toList), h6))).bind fun (b7, h8) =>
 (if b7 = true then (
 none)
 else (
 (L310_0 N N (a0, 0, h8)).bind fun h45 =>
 some (true, h45)))
abbrev ks310 : List SK := [.one .str]
abbrev rs310 : List SK := [.one .bool]
def e310 (N : Nat) : Env := ⟨Tryz.prog, 64, inTab [], inTab [], natTab [], inTab [], calTab [], altTab [], loopTab [(4, ⟨⟨.normal, [0, 3], [.one .str, .one (.int .i64)], [], []⟩, [⟨(.exit 0), [], [], [], []⟩], L310_0 N⟩)], natTab [], inTab [2, 8]⟩
theorem l310_0 (N : Nat) : ∀ A, (e310 N).lp (lid (loopAt Tryz.f310 0)) = some A → LoopOk (e310 N) N (loopAt Tryz.f310 0) A :=
  loopOk_of (A := ⟨⟨.normal, [0, 3], [.one .str, .one (.int .i64)], [], []⟩, [⟨(.exit 0), [], [], [], []⟩], L310_0 N⟩) (by kernel_rfl) (fun _ => rfl) (fun _ _ => by kernel_rfl)
theorem fine310 (N : Nat) : Fine (e310 N) N 310 Tryz.f310 ks310 rs310 (F310 N) :=
  ⟨Tryz.func310, by kernel_rfl, by kernel_rfl, by kernel_rfl, loops_of ⟨l310_0 N, trivial⟩, by kernel_rfl, by kernel_rfl, fun _ => by kernel_rfl⟩
theorem good310 (N : Nat) : Go.L.Good (e310 N) := good_of trivial
theorem gd310 : CalOk Tryz.prog 310 (.pure (mkP ks310 rs310 (F310 100))) := mkP_good (fine310 100) (good310 100) (by kernel_rfl) (by kernel_rfl)

/-! ### 308: term.own$1 -/
def F308 (N : Nat) : Bool × Bool × Bool × Bool × Bool × V × H → Option (Bool × H)
 | (a0, a1, a2, a3, a4, a5, h) =>
 (if a0 = true then (
 some (true, h))
 else (
 (nck a5).bind fun _ =>
 (L.asInt .i64 (rd h (padd a5 1) 0)).bind fun x3 =>
 some ((x3 == 0), h))).bind fun (b1, h2) =>
 (if b1 = true then (
 (if a1 = true then (
 some (true, h2))
 else (
 (nck a5).bind fun _ =>
 (L.asCplx .f64 (rd h2 (padd a5 2) 0)).bind fun x8 =>
 some ((Op.floatEq .f64 x8.1 0 && Op.floatEq .f64 x8.2 0), h2))).bind fun (b6, h7) =>
 some (b6, h7))
 else (
 some (false, h2))).bind fun (b4, h5) =>
 (if b4 = true then (
 (if a2 = true then (
 some (true, h5))
 else (
 (nck a5).bind fun _ =>
 (L.asStr (rd h5 (padd a5 3) 0)).bind fun x13 =>
 some (((x13).toList == ((ByteArray.mk #[])).toList), h5))).bind fun (b11, h12) =>
 some (b11, h12))
 else (
 some (false, h5))).bind fun (b9, h10) =>
 (if b9 = true then (
 (if a3 = true then (
 some (true, h10))
 else (
 (nck a5).bind fun _ =>
 (L.asInt .i64 (rd h10 (padd a5 4) 0)).bind fun x18 =>
 (L.asInt .i64 (rd h10 (padd a5 4) 1)).bind fun x19 =>
 some (((x18 == 0) && ((x19 == 0) && true)), h10))).bind fun (b16, h17) =>
 some (b16, h17))
 else (
 some (false, h10))).bind fun (b14, h15) =>
 (if b14 = true then (
 (if a4 = true then (
 some (true, h15))
 else (
 (nck a5).bind fun _ =>
 ((rd h15 (padd a5 6) 0)).bind fun x24 =>
 (slen x24).bind fun n25 =>
 some ((n25 == 0), h15))).bind fun (b22, h23) =>
 some (b22, h23))
 else (
 some (false, h15))).bind fun (b20, h21) =>
 some (b20, h21)
abbrev ks308 : List SK := [.one .bool, .one .bool, .one .bool, .one .bool, .one .bool, .one .ref]
abbrev rs308 : List SK := [.one .bool]
def e308 (N : Nat) : Env := ⟨Tryz.prog, 52, inTab [], inTab [], natTab [], inTab [], calTab [], altTab [], loopTab [], natTab [], inTab []⟩
theorem fine308 (N : Nat) : Fine (e308 N) N 308 Tryz.f308 ks308 rs308 (F308 N) :=
  ⟨Tryz.func308, by kernel_rfl, by kernel_rfl, by kernel_rfl, loops_of trivial, by kernel_rfl, by kernel_rfl, fun _ => by kernel_rfl⟩
theorem good308 (N : Nat) : Go.L.Good (e308 N) := good_of trivial
theorem gd308 (N : Nat) : CalOk Tryz.prog 308 (.ro (mkFun ks308 rs308 (F308 N))) := mkFun_ro (fine308 N) (good308 N) (by kernel_rfl)

/-! ### 235: term.own -/
abbrev rs235_62 : List SK := [.one .bool]
def D235_62 (N : Nat) : List (Nat × (List V → H → Option (Tup rs235_62 H))) := [(308, (mkFun ks308 rs308 (F308 N)).F)]
theorem dg235_62 (N : Nat) : CalOk Tryz.prog 16777278 (.dyn (dynF rs235_62 (D235_62 N))) := dyn_good ⟨mkFun_good (fine308 N) (good308 N), trivial⟩
def F235 (N : Nat) : Int × Int × (Nat × Nat) × ByteArray × Int × Int × V × H → Option (Bool × H)
 | (a0_0, a0_1, a0_2, a0_3, a0_4, a0_5, a0_6, h) =>
 (some (h ++ [O.cells 0 [(.int .i64 a0_0), (.int .i64 a0_1), (.cplx .f64 a0_2.1 a0_2.2), (.str a0_3), (.int .i64 a0_4), (.int .i64 a0_5), a0_6]]) : Option H).bind fun h1 =>
 (L.asInt .i64 (rd h1 (.ptr (h).length 0 0) 0)).bind fun x2 =>
 (if (x2 == 1) = true then (
 none)
 else (
 (if (x2 == 2) = true then (
 none)
 else (
 (if (x2 == 3) = true then (
 none)
 else (
 (if (x2 == 4) = true then (
 none)
 else (
 (if (x2 == 5) = true then (
 (L.asStr (rd h1 (.ptr (h).length 0 3) 0)).bind fun x3 =>
 (F310 100 (x3, [])).bind fun (x4, _) =>
 (if x4 = true then (
 Option.bind (α := Bool × H) (dynC rs235_62 (D235_62 N) (.fn 308 [(.ptr (h).length 0 0)]) [(.bool false), (.bool false), (.bool true), (.bool false), (.bool false)] h1) fun (x7, h8) =>
 some (x7, h8))
 else (
 some (false, h1))).bind fun (b5, h6) =>
 some (b5, h6))
 else (
 none))))))))))
abbrev ks235 : List SK := [.agg [(.int .i64), (.int .i64), (.cplx .f64), .str, (.int .i64), (.int .i64), .ref]]
abbrev rs235 : List SK := [.one .bool]
def e235 (N : Nat) : Env := ⟨Tryz.prog, 111, inTab [], inTab [], natTab [], inTab [], calTab [(310, .pure (mkP ks310 rs310 (F310 100))), (16777278, .dyn (dynF rs235_62 (D235_62 N)))], altTab [], loopTab [], natTab [], inTab [4, 6, 8, 10, 13, 14, 15, 16, 17, 18, 19, 20]⟩
theorem fine235 (N : Nat) : Fine (e235 N) N 235 Tryz.f235 ks235 rs235 (F235 N) :=
  ⟨Tryz.func235, by kernel_rfl, by kernel_rfl, by kernel_rfl, loops_of trivial, by kernel_rfl, by kernel_rfl, fun _ => by kernel_rfl⟩
theorem good235 (N : Nat) : Go.L.Good (e235 N) := good_of ⟨gd310, ⟨dg235_62 N, trivial⟩⟩
theorem gd235 (N : Nat) : CalOk Tryz.prog 235 (.full (mkFun ks235 rs235 (F235 N))) := mkFun_good (fine235 N) (good235 N)

/-! ### 168: term.walk -/
def L168_0 (N : Nat) (rec : Int × Int × (Nat × Nat) × ByteArray × Int × Int × V × Int × V × V × H → Option (Int × H)) : Nat → Int × Int × H → Option (H)
 | 0, _ => none
 | n + 1, (x14, x15, h16) =>
 (if (decide (x15 < x14)) = true then (
 none)
 else (
 some h16))
def F168 (N : Nat) : Nat → Int × Int × (Nat × Nat) × ByteArray × Int × Int × V × Int × V × V × H → Option (Int × H)
 | 0, _ => none
 | d + 1, (a0_0, a0_1, a0_2, a0_3, a0_4, a0_5, a0_6, a1, a2, a3, h) =>
 (nck a2).bind fun _ =>
 (L.asInt .i64 (rd h a2 0)).bind fun x1 =>
 (nck a2).bind fun _ =>
 (wr h a2 [(.int .i64 (IntKind.i64.wrap (x1 + 1)))]).bind fun h2 =>
 (nck a3).bind fun _ =>
 (L.asInt .i64 (rd h2 a3 0)).bind fun x3 =>
 (nck a3).bind fun _ =>
 (wr h2 a3 [(.int .i64 (if a1 > x3 then a1 else x3))]).bind fun h4 =>
 (nck a2).bind fun _ =>
 (L.asInt .i64 (rd h4 a2 0)).bind fun x5 =>
 (if (decide (x5 > 1024)) = true then (
 some (true, h4))
 else (
 some ((decide (a1 > 64)), h4))).bind fun (b6, h7) =>
 (if b6 = true then (
 none)
 else (
 (F235 N (a0_0, a0_1, (a0_2.1, a0_2.2), a0_3, a0_4, a0_5, a0_6, h7)).bind fun (x8, h9) =>
 (if (!x8) = true then (
 none)
 else (
 (slen a0_6).bind fun n10 =>
 (L168_0 N (F168 N d) N (n10, 0, h9)).bind fun h17 =>
 some (0, h17)))))
abbrev ks168 : List SK := [.agg [(.int .i64), (.int .i64), (.cplx .f64), .str, (.int .i64), (.int .i64), .ref], .one (.int .i64), .one .ref, .one .ref]
abbrev rs168 : List SK := [.one (.int .i64)]
def e168 (N d : Nat) : Env := ⟨Tryz.prog, 54, inTab [4], inTab [], natTab [(4, 4), (34, 4), (40, 4)], inTab [], calTab [(235, .full (mkFun ks235 rs235 (F235 N)))], altTab [], loopTab [(8, ⟨⟨.normal, [36, 37], [.one (.int .i64), .one (.int .i64)], [], []⟩, [⟨(.exit 0), [], [], [], []⟩], L168_0 N (F168 N d)⟩)], natTab [], inTab [4, 6, 9, 10, 11, 12, 13]⟩
theorem l168_0 (N d : Nat) : ∀ A, (e168 N d).lp (lid (loopAt Tryz.f168 0)) = some A → LoopOk (e168 N d) N (loopAt Tryz.f168 0) A :=
  loopOk_of (A := ⟨⟨.normal, [36, 37], [.one (.int .i64), .one (.int .i64)], [], []⟩, [⟨(.exit 0), [], [], [], []⟩], L168_0 N (F168 N d)⟩) (by kernel_rfl) (fun _ => rfl) (fun _ _ => by kernel_rfl)
theorem fine168 (N d : Nat) : Fine (e168 N d) N 168 Tryz.f168 ks168 rs168 (F168 N (d + 1)) :=
  ⟨Tryz.func168, by kernel_rfl, by kernel_rfl, by kernel_rfl, loops_of ⟨l168_0 N d, trivial⟩, by kernel_rfl, by kernel_rfl, fun _ => by kernel_rfl⟩
theorem gd168 (N : Nat) : ∀ d, CalOk Tryz.prog 168 (.full (mkFun ks168 rs168 (F168 N d)))
  | 0 => fun vs h s he => by obtain ⟨t, _, he⟩ := Option.bind_eq_some_iff.1 he; cases he
  | d + 1 => mkFun_good (fine168 N d) (good_of ⟨gd235 N, trivial⟩)
theorem good168 (N d : Nat) : Go.L.Good (e168 N d) := good_of ⟨gd235 N, trivial⟩

/-! ### 111: term.Parts -/
def F111 (N : Nat) : Int × Int × (Nat × Nat) × ByteArray × Int × Int × V × H → Option (Int × Int × Int × H)
 | (a0_0, a0_1, a0_2, a0_3, a0_4, a0_5, a0_6, h) =>
 (some (h ++ [O.cells 0 [(.int .i64 0)]]) : Option H).bind fun h1 =>
 (some (h1 ++ [O.cells 0 [(.int .i64 0)]]) : Option H).bind fun h2 =>
 (F168 N N (a0_0, a0_1, (a0_2.1, a0_2.2), a0_3, a0_4, a0_5, a0_6, 1, (.ptr (h).length 0 0), (.ptr (h1).length 0 0), h2)).bind fun (x3, h4) =>
 (if (x3 != 0) = true then (
 none)
 else (
 (L.asInt .i64 (rd h4 (.ptr (h).length 0 0) 0)).bind fun x5 =>
 (L.asInt .i64 (rd h4 (.ptr (h1).length 0 0) 0)).bind fun x6 =>
 (wr h4 (.ptr (h).length 0 0) [(.int .i64 x5)]).bind fun h7 =>
 (wr h7 (.ptr (h1).length 0 0) [(.int .i64 x6)]).bind fun h8 =>
 (L.asInt .i64 (rd h8 (.ptr (h).length 0 0) 0)).bind fun x9 =>
 (L.asInt .i64 (rd h8 (.ptr (h1).length 0 0) 0)).bind fun x10 =>
 some (x9, x10, 0, h8)))
abbrev ks111 : List SK := [.agg [(.int .i64), (.int .i64), (.cplx .f64), .str, (.int .i64), (.int .i64), .ref]]
abbrev rs111 : List SK := [.one (.int .i64), .one (.int .i64), .one (.int .i64)]
def e111 (N : Nat) : Env := ⟨Tryz.prog, 12, inTab [1], inTab [], natTab [(1, 1)], inTab [], calTab [(168, .full (mkFun ks168 rs168 (F168 N N)))], altTab [], loopTab [], natTab [], inTab [3]⟩
theorem fine111 (N : Nat) : Fine (e111 N) N 111 Tryz.f111 ks111 rs111 (F111 N) :=
  ⟨Tryz.func111, by kernel_rfl, by kernel_rfl, by kernel_rfl, loops_of trivial, by kernel_rfl, by kernel_rfl, fun _ => by kernel_rfl⟩
theorem good111 (N : Nat) : Go.L.Good (e111 N) := good_of ⟨gd168 N N, trivial⟩
theorem gd111 (N : Nat) : CalOk Tryz.prog 111 (.full (mkFun ks111 rs111 (F111 N))) := mkFun_good (fine111 N) (good111 N)

/-! ### 52: term.Check -/
def F52 (N : Nat) : Int × Int × (Nat × Nat) × ByteArray × Int × Int × V × H → Option (Int × H)
 | (a0_0, a0_1, a0_2, a0_3, a0_4, a0_5, a0_6, h) =>
 (F111 N (a0_0, a0_1, (a0_2.1, a0_2.2), a0_3, a0_4, a0_5, a0_6, h)).bind fun (x1, x2, x3, h4) =>
 some (x3, h4)
abbrev ks52 : List SK := [.agg [(.int .i64), (.int .i64), (.cplx .f64), .str, (.int .i64), (.int .i64), .ref]]
abbrev rs52 : List SK := [.one (.int .i64)]
def e52 (N : Nat) : Env := ⟨Tryz.prog, 13, inTab [1], inTab [], natTab [(1, 1)], inTab [], calTab [(111, .full (mkFun ks111 rs111 (F111 N)))], altTab [], loopTab [], natTab [], inTab []⟩
theorem fine52 (N : Nat) : Fine (e52 N) N 52 Tryz.f52 ks52 rs52 (F52 N) :=
  ⟨Tryz.func52, by kernel_rfl, by kernel_rfl, by kernel_rfl, loops_of trivial, by kernel_rfl, by kernel_rfl, fun _ => by kernel_rfl⟩
theorem good52 (N : Nat) : Go.L.Good (e52 N) := good_of ⟨gd111 N, trivial⟩
theorem gd52 (N : Nat) : CalOk Tryz.prog 52 (.full (mkFun ks52 rs52 (F52 N))) := mkFun_good (fine52 N) (good52 N)


end
end Go.Proofs.YtkhnngghmlpbeaaGreat
