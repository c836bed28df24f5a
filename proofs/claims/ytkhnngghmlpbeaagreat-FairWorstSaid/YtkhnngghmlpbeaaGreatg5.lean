/- The functions that the law reaches, as plain ones (printed by gen.py). -/
import Derived.Test.YtkhnngghmlpbeaaGreatg4
set_option linter.unusedVariables false
set_option maxRecDepth 100000
namespace Go.Proofs.YtkhnngghmlpbeaaGreat
noncomputable section
open Go.L

/-! ### 284: slices.Equal[[]int,int] -/
def L284_0 (N : Nat) : Nat → Int × Int × H → Option (H)
 | 0, _ => none
 | n + 1, (x7, x8, h9) =>
 (if (decide (x8 < x7)) = true then (
 none)
 else (
 some h9))
def F284 (N : Nat) : V × V × H → Option (Bool × H)
 | (a0, a1, h) =>
 (slen a0).bind fun n1 =>
 (slen a1).bind fun n2 =>
 (if (n1 != n2) = true then (
 none)
 else (
 (slen a0).bind fun n3 =>
 (L284_0 N N (n3, 0, h)).bind fun h10 =>
 some (true, h10)))
abbrev ks284 : List SK := [.one .ref, .one .ref]
abbrev rs284 : List SK := [.one .bool]
def e284 (N : Nat) : Env := ⟨Tryz.prog, 26, inTab [], inTab [], natTab [], inTab [], calTab [], altTab [], loopTab [(4, ⟨⟨.normal, [12, 13], [.one (.int .i64), .one (.int .i64)], [], []⟩, [⟨(.exit 0), [], [], [], []⟩], L284_0 N⟩)], natTab [], inTab [2, 5, 6, 7, 8]⟩
theorem l284_0 (N : Nat) : ∀ A, (e284 N).lp (lid (loopAt Tryz.f284 0)) = some A → LoopOk (e284 N) N (loopAt Tryz.f284 0) A :=
  loopOk_of (A := ⟨⟨.normal, [12, 13], [.one (.int .i64), .one (.int .i64)], [], []⟩, [⟨(.exit 0), [], [], [], []⟩], L284_0 N⟩) (by kernel_rfl) (fun _ => rfl) (fun _ _ => by kernel_rfl)
theorem fine284 (N : Nat) : Fine (e284 N) N 284 Tryz.f284 ks284 rs284 (F284 N) :=
  ⟨Tryz.func284, by kernel_rfl, by kernel_rfl, by kernel_rfl, loops_of ⟨l284_0 N, trivial⟩, by kernel_rfl, by kernel_rfl, fun _ => by kernel_rfl⟩
theorem good284 (N : Nat) : Go.L.Good (e284 N) := good_of trivial
theorem gd284 (N : Nat) : CalOk Tryz.prog 284 (.ro (mkFun ks284 rs284 (F284 N))) := mkFun_ro (fine284 N) (good284 N) (by kernel_rfl)

/-! ### 285: api.Pid] -/
def L285_0 (N : Nat) : Nat → Int × Int × H → Option (H)
 | 0, _ => none
 | n + 1, (x7, x8, h9) =>
 (if (decide (x8 < x7)) = true then (
 none)
 else (
 some h9))
def F285 (N : Nat) : V × V × H → Option (Bool × H)
 | (a0, a1, h) =>
 (slen a0).bind fun n1 =>
 (slen a1).bind fun n2 =>
 (if (n1 != n2) = true then (
 none)
 else (
 (slen a0).bind fun n3 =>
 (L285_0 N N (n3, 0, h)).bind fun h10 =>
 some (true, h10)))
abbrev ks285 : List SK := [.one .ref, .one .ref]
abbrev rs285 : List SK := [.one .bool]
def e285 (N : Nat) : Env := ⟨Tryz.prog, 26, inTab [], inTab [], natTab [], inTab [], calTab [], altTab [], loopTab [(4, ⟨⟨.normal, [12, 13], [.one (.int .i64), .one (.int .i64)], [], []⟩, [⟨(.exit 0), [], [], [], []⟩], L285_0 N⟩)], natTab [], inTab [2, 5, 6, 7, 8]⟩
theorem l285_0 (N : Nat) : ∀ A, (e285 N).lp (lid (loopAt Tryz.f285 0)) = some A → LoopOk (e285 N) N (loopAt Tryz.f285 0) A :=
  loopOk_of (A := ⟨⟨.normal, [12, 13], [.one (.int .i64), .one (.int .i64)], [], []⟩, [⟨(.exit 0), [], [], [], []⟩], L285_0 N⟩) (by kernel_rfl) (fun _ => rfl) (fun _ _ => by kernel_rfl)
theorem fine285 (N : Nat) : Fine (e285 N) N 285 Tryz.f285 ks285 rs285 (F285 N) :=
  ⟨Tryz.func285, by kernel_rfl, by kernel_rfl, by kernel_rfl, loops_of ⟨l285_0 N, trivial⟩, by kernel_rfl, by kernel_rfl, fun _ => by kernel_rfl⟩
theorem good285 (N : Nat) : Go.L.Good (e285 N) := good_of trivial
theorem gd285 (N : Nat) : CalOk Tryz.prog 285 (.ro (mkFun ks285 rs285 (F285 N))) := mkFun_ro (fine285 N) (good285 N) (by kernel_rfl)

/-! ### 217: fair.turns -/
def F217 (N : Nat) : Bool × V × V × Int × Int × Int × Int × Int × Int × Int × Int × (Nat × Nat) × ByteArray × Int × Int × V × Int × Int × V × Bool × V × V × Int × Int × Int × Int × Int × Int × Int × Int × (Nat × Nat) × ByteArray × Int × Int × V × Int × Int × V × H → Option (Bool × H)
 | (a0_0, a0_1, a0_2, a0_3, a0_4, a0_5, a0_6, a0_7, a0_8, a0_9, a0_10, a0_11, a0_12, a0_13, a0_14, a0_15, a0_16, a0_17, a0_18, a1_0, a1_1, a1_2, a1_3, a1_4, a1_5, a1_6, a1_7, a1_8, a1_9, a1_10, a1_11, a1_12, a1_13, a1_14, a1_15, a1_16, a1_17, a1_18, h) =>
 (if (a0_0 == a1_0) = true then (
 some ((a0_3 == a1_3), h))
 else (
 some (false, h))).bind fun (b1, h2) =>
 (if b1 = true then (
 some ((a0_4 == a1_4), h2))
 else (
 some (false, h2))).bind fun (b3, h4) =>
 (if b3 = true then (
 some ((a0_5 == a1_5), h4))
 else (
 some (false, h4))).bind fun (b5, h6) =>
 (if b5 = true then (
 some (((a0_6 == a1_6) && ((a0_7 == a1_7) && true)), h6))
 else (
 some (false, h6))).bind fun (b7, h8) =>
 (if b7 = true then (
 some ((a0_8 == a1_8), h8))
 else (
 some (false, h8))).bind fun (b9, h10) =>
 (if b9 = true then (
 some ((a0_16 == a1_16), h10))
 else (
 some (false, h10))).bind fun (b11, h12) =>
 (if b11 = true then (
 some ((a0_17 == a1_17), h12))
 else (
 some (false, h12))).bind fun (b13, h14) =>
 (if b13 = true then (
 (F279 N (a0_9, a0_10, (a0_11.1, a0_11.2), a0_12, a0_13, a0_14, a0_15, a1_9, a1_10, (a1_11.1, a1_11.2), a1_12, a1_13, a1_14, a1_15, h14)).bind fun (x17, _) =>
 some (x17, h14))
 else (
 some (false, h14))).bind fun (b15, h16) =>
 (if b15 = true then (
 (F284 N (a0_1, a1_1, h16)).bind fun (x20, _) =>
 some (x20, h16))
 else (
 some (false, h16))).bind fun (b18, h19) =>
 (if b18 = true then (
 (F285 N (a0_2, a1_2, h19)).bind fun (x23, _) =>
 some (x23, h19))
 else (
 some (false, h19))).bind fun (b21, h22) =>
 (if b21 = true then (
 (F284 N (a0_18, a1_18, h22)).bind fun (x26, _) =>
 some (x26, h22))
 else (
 some (false, h22))).bind fun (b24, h25) =>
 some (b24, h25)
abbrev ks217 : List SK := [.agg [.bool, .ref, .ref, (.int .i64), (.int .i64), (.int .i64), (.int .i64), (.int .i64), (.int .i64), (.int .i64), (.int .i64), (.cplx .f64), .str, (.int .i64), (.int .i64), .ref, (.int .i64), (.int .i64), .ref], .agg [.bool, .ref, .ref, (.int .i64), (.int .i64), (.int .i64), (.int .i64), (.int .i64), (.int .i64), (.int .i64), (.int .i64), (.cplx .f64), .str, (.int .i64), (.int .i64), .ref, (.int .i64), (.int .i64), .ref]]
abbrev rs217 : List SK := [.one .bool]
def e217 (N : Nat) : Env := ⟨Tryz.prog, 95, inTab [2, 3], inTab [], natTab [(2, 2), (3, 3), (5, 2), (7, 3), (11, 2), (13, 3), (18, 2), (20, 3), (25, 2), (27, 3), (32, 2), (34, 3), (39, 2), (40, 2), (42, 3), (43, 3), (48, 2), (49, 2), (51, 3), (52, 3), (57, 2), (58, 2), (60, 3), (61, 3), (66, 2), (67, 2), (69, 3), (70, 3), (75, 2), (77, 3), (82, 2), (84, 3), (89, 2), (91, 3)], inTab [], calTab [(279, .ro (mkFun ks279 rs279 (F279 N))), (284, .ro (mkFun ks284 rs284 (F284 N))), (285, .ro (mkFun ks285 rs285 (F285 N)))], altTab [], loopTab [], natTab [], inTab []⟩
theorem fine217 (N : Nat) : Fine (e217 N) N 217 Tryz.f217 ks217 rs217 (F217 N) :=
  ⟨Tryz.func217, by kernel_rfl, by kernel_rfl, by kernel_rfl, loops_of trivial, by kernel_rfl, by kernel_rfl, fun _ => by kernel_rfl⟩
theorem good217 (N : Nat) : Go.L.Good (e217 N) := good_of ⟨gd279 N, ⟨gd284 N, ⟨gd285 N, trivial⟩⟩⟩
theorem gd217 (N : Nat) : CalOk Tryz.prog 217 (.ro (mkFun ks217 rs217 (F217 N))) := mkFun_ro (fine217 N) (good217 N) (by kernel_rfl)

/-! ### 149: fair.same -/
def F149 (N : Nat) : List V × List V × H → Option (Bool × H)
 | (a0, a1, h) =>
 (if (a0).length = 29 then (
 (if (a1).length = 29 then (
 (L.asInt .i64 a0[0]?).bind fun x1 =>
 (L.asInt .i64 a1[0]?).bind fun x2 =>
 (if (x1 == x2) = true then (
 (L.asInt .i64 a0[1]?).bind fun x5 =>
 (L.asInt .i64 a1[1]?).bind fun x6 =>
 some ((x5 == x6), h))
 else (
 some (false, h))).bind fun (b3, h4) =>
 (if b3 = true then (
 (L.asInt .i64 a0[2]?).bind fun x9 =>
 (L.asInt .i64 a1[2]?).bind fun x10 =>
 some ((x9 == x10), h4))
 else (
 some (false, h4))).bind fun (b7, h8) =>
 (if b7 = true then (
 (L.asInt .i64 a0[3]?).bind fun x13 =>
 (L.asInt .i64 a1[3]?).bind fun x14 =>
 some ((x13 == x14), h8))
 else (
 some (false, h8))).bind fun (b11, h12) =>
 (if b11 = true then (
 (L.asInt .i64 a0[4]?).bind fun x17 =>
 (L.asInt .i64 a1[4]?).bind fun x18 =>
 some ((x17 == x18), h12))
 else (
 some (false, h12))).bind fun (b15, h16) =>
 (if b15 = true then (
 (L.asInt .i64 a0[5]?).bind fun x21 =>
 (L.asInt .i64 a0[6]?).bind fun x22 =>
 (L.asInt .i64 a1[5]?).bind fun x23 =>
 (L.asInt .i64 a1[6]?).bind fun x24 =>
 some (((x21 == x23) && ((x22 == x24) && true)), h16))
 else (
 some (false, h16))).bind fun (b19, h20) =>
 (if b19 = true then (
 (L.asInt .i64 a0[8]?).bind fun x27 =>
 (L.asInt .i64 a1[8]?).bind fun x28 =>
 some ((x27 == x28), h20))
 else (
 some (false, h20))).bind fun (b25, h26) =>
 (if b25 = true then (
 (a0[7]?).bind fun x31 =>
 (a1[7]?).bind fun x32 =>
 (F215 N (x31, x32, h26)).bind fun (x33, _) =>
 some (x33, h26))
 else (
 some (false, h26))).bind fun (b29, h30) =>
 (if b29 = true then (
 (a0[28]?).bind fun x36 =>
 (a1[28]?).bind fun x37 =>
 (F216 N (x36, x37, h30)).bind fun (x38, h39) =>
 some (x38, h39))
 else (
 some (false, h30))).bind fun (b34, h35) =>
 (if b34 = true then (
 (L.asBool a0[9]?).bind fun x42 =>
 (a0[10]?).bind fun x43 =>
 (a0[11]?).bind fun x44 =>
 (L.asInt .i64 a0[12]?).bind fun x45 =>
 (L.asInt .i64 a0[13]?).bind fun x46 =>
 (L.asInt .i64 a0[14]?).bind fun x47 =>
 (L.asInt .i64 a0[15]?).bind fun x48 =>
 (L.asInt .i64 a0[16]?).bind fun x49 =>
 (L.asInt .i64 a0[17]?).bind fun x50 =>
 (L.asInt .i64 a0[18]?).bind fun x51 =>
 (L.asInt .i64 a0[19]?).bind fun x52 =>
 (L.asCplx .f64 a0[20]?).bind fun x53 =>
 (L.asStr a0[21]?).bind fun x54 =>
 (L.asInt .i64 a0[22]?).bind fun x55 =>
 (L.asInt .i64 a0[23]?).bind fun x56 =>
 (a0[24]?).bind fun x57 =>
 (L.asInt .i64 a0[25]?).bind fun x58 =>
 (L.asInt .i64 a0[26]?).bind fun x59 =>
 (a0[27]?).bind fun x60 =>
 (L.asBool a1[9]?).bind fun x61 =>
 (a1[10]?).bind fun x62 =>
 (a1[11]?).bind fun x63 =>
 (L.asInt .i64 a1[12]?).bind fun x64 =>
 (L.asInt .i64 a1[13]?).bind fun x65 =>
 (L.asInt .i64 a1[14]?).bind fun x66 =>
 (L.asInt .i64 a1[15]?).bind fun x67 =>
 (L.asInt .i64 a1[16]?).bind fun x68 =>
 (L.asInt .i64 a1[17]?).bind fun x69 =>
 (L.asInt .i64 a1[18]?).bind fun x70 =>
 (L.asInt .i64 a1[19]?).bind fun x71 =>
 (L.asCplx .f64 a1[20]?).bind fun x72 =>
 (L.asStr a1[21]?).bind fun x73 =>
 (L.asInt .i64 a1[22]?).bind fun x74 =>
 (L.asInt .i64 a1[23]?).bind fun x75 =>
 (a1[24]?).bind fun x76 =>
 (L.asInt .i64 a1[25]?).bind fun x77 =>
 (L.asInt .i64 a1[26]?).bind fun x78 =>
 (a1[27]?).bind fun x79 =>
 (F217 N (x42, x43, x44, x45, x46, x47, x48, x49, x50, x51, x52, (x53.1, x53.2), x54, x55, x56, x57, x58, x59, x60, x61, x62, x63, x64, x65, x66, x67, x68, x69, x70, x71, (x72.1, x72.2), x73, x74, x75, x76, x77, x78, x79, h35)).bind fun (x80, _) =>
 some (x80, h35))
 else (
 some (false, h35))).bind fun (b40, h41) =>
 some (b40, h41)) else none)) else none)
abbrev ks149 : List SK := [.blk, .blk]
abbrev rs149 : List SK := [.one .bool]
def e149 (N : Nat) : Env := ⟨Tryz.prog, 73, inTab [2, 3], inTab [], natTab [(2, 2), (3, 3), (5, 2), (7, 3), (11, 2), (13, 3), (18, 2), (20, 3), (25, 2), (27, 3), (32, 2), (34, 3), (39, 2), (41, 3), (46, 2), (48, 3), (53, 2), (55, 3), (60, 2), (62, 3), (67, 2), (69, 3)], inTab [], calTab [(215, .ro (mkFun ks215 rs215 (F215 N))), (216, .full (mkFun ks216 rs216 (F216 N))), (217, .ro (mkFun ks217 rs217 (F217 N)))], altTab [], loopTab [], natTab [], inTab []⟩
theorem fine149 (N : Nat) : Fine (e149 N) N 149 Tryz.f149 ks149 rs149 (F149 N) :=
  ⟨Tryz.func149, by kernel_rfl, by kernel_rfl, by kernel_rfl, loops_of trivial, by kernel_rfl, by kernel_rfl, fun _ => by kernel_rfl⟩
theorem good149 (N : Nat) : Go.L.Good (e149 N) := good_of ⟨gd215 N, ⟨gd216 N, ⟨gd217 N, trivial⟩⟩⟩
theorem gd149 (N : Nat) : CalOk Tryz.prog 149 (.full (mkFun ks149 rs149 (F149 N))) := mkFun_good (fine149 N) (good149 N)

/-! ### 219: table.Table).Gens -/
def L219_0 (N : Nat) : Nat → V × V × Int × Int × H → Option (V × H)
 | 0, _ => none
 | n + 1, (x15, x16, x17, x18, h19) =>
 (if (decide (x18 < x17)) = true then (
 (sidx x16 x18 3).bind fun q20 =>
 (L.asInt .i64 (rd h19 q20 0)).bind fun x21 =>
 (L.asBool (rd h19 q20 1)).bind fun x22 =>
 (L.asStr (rd h19 q20 2)).bind fun x23 =>
 (happ h19 x15 1 1 [(.int .i64 x21)]).bind fun (v24, h25) =>
 L219_0 N n (v24, x16, x17, (IntKind.i64.wrap (x18 + 1)), h25))
 else (
 some (x15, h19)))
def F219 (N : Nat) : V × H → Option (V × H)
 | (a0, h) =>
 (F286 N (a0, h)).bind fun (x1, _) =>
 (if (!x1) = true then (
 none)
 else (
 (nck a0).bind fun _ =>
 ((rd h (padd a0 0) 0)).bind fun x2 =>
 (slen x2).bind fun n3 =>
 (L219_0 N N (.nils, x2, n3, 0, h)).bind fun (x26, h27) =>
 some (x26, h27)))
abbrev ks219 : List SK := [.one .ref]
abbrev rs219 : List SK := [.one .ref]
def e219 (N : Nat) : Env := ⟨Tryz.prog, 25, inTab [5, 21], inTab [], natTab [(5, 5), (19, 5)], inTab [], calTab [(286, .ro (mkFun ks286 rs286 (F286 N)))], altTab [], loopTab [(5, ⟨⟨.normal, [3, 12, 13, 14], [.one .ref, .one .ref, .one (.int .i64), .one (.int .i64)], [], []⟩, [⟨(.exit 0), [3], [.one .ref], [], []⟩], L219_0 N⟩)], natTab [], inTab [2]⟩
theorem l219_0 (N : Nat) : ∀ A, (e219 N).lp (lid (loopAt Tryz.f219 0)) = some A → LoopOk (e219 N) N (loopAt Tryz.f219 0) A :=
  loopOk_of (A := ⟨⟨.normal, [3, 12, 13, 14], [.one .ref, .one .ref, .one (.int .i64), .one (.int .i64)], [], []⟩, [⟨(.exit 0), [3], [.one .ref], [], []⟩], L219_0 N⟩) (by kernel_rfl) (fun _ => rfl) (fun _ _ => by kernel_rfl)
theorem fine219 (N : Nat) : Fine (e219 N) N 219 Tryz.f219 ks219 rs219 (F219 N) :=
  ⟨Tryz.func219, by kernel_rfl, by kernel_rfl, by kernel_rfl, loops_of ⟨l219_0 N, trivial⟩, by kernel_rfl, by kernel_rfl, fun _ => by kernel_rfl⟩
theorem good219 (N : Nat) : Go.L.Good (e219 N) := good_of ⟨gd286 N, trivial⟩
theorem gd219 (N : Nat) : CalOk Tryz.prog 219 (.full (mkFun ks219 rs219 (F219 N))) := mkFun_good (fine219 N) (good219 N)
theorem gl219 (N : Nat) : CalOk Tryz.prog 219 (.full (mkFun ks219 rs219 (locF false ks219 rs219 (F219 N)))) := loc_full (gd219 N)

/-! ### 224: core.Core).Queue -/
def F224 (N : Nat) : V × Int × H → Option (V × H)
 | (a0, a1, h) =>
 (F291 N (a0, h)).bind fun (x1, _) =>
 (if (!x1) = true then (
 some (true, h))
 else (
 (F292 100 (a1, [])).bind fun (x4, _) =>
 some ((!x4), h))).bind fun (b2, h3) =>
 (if b2 = true then (
 none)
 else (
 (nck a0).bind fun _ =>
 (aidx (padd a0 2) a1 3 1).bind fun q5 =>
 ((rd h3 (padd q5 0) 0)).bind fun x6 =>
 (F293 N (x6, h3)).bind fun (x7, h8) =>
 some (x7, h8)))
abbrev ks224 : List SK := [.one .ref, .one (.int .i64)]
abbrev rs224 : List SK := [.one .ref]
def e224 (N : Nat) : Env := ⟨Tryz.prog, 21, inTab [], inTab [], natTab [], inTab [], calTab [(291, .ro (mkFun ks291 rs291 (F291 N))), (292, .pure (mkP ks292 rs292 (F292 100))), (293, .full (mkFun ks293 rs293 (F293 N)))], altTab [], loopTab [], natTab [], inTab [2]⟩
theorem fine224 (N : Nat) : Fine (e224 N) N 224 Tryz.f224 ks224 rs224 (F224 N) :=
  ⟨Tryz.func224, by kernel_rfl, by kernel_rfl, by kernel_rfl, loops_of trivial, by kernel_rfl, by kernel_rfl, fun _ => by kernel_rfl⟩
theorem good224 (N : Nat) : Go.L.Good (e224 N) := good_of ⟨gd291 N, ⟨gd292, ⟨gd293 N, trivial⟩⟩⟩
theorem gd224 (N : Nat) : CalOk Tryz.prog 224 (.full (mkFun ks224 rs224 (F224 N))) := mkFun_good (fine224 N) (good224 N)

/-! ### 225: core.Core).Hand -/
def F225 (N : Nat) : V × H → Option (Int × H)
 | (a0, h) =>
 (F291 N (a0, h)).bind fun (x1, _) =>
 (if (!x1) = true then (
 none)
 else (
 (nck a0).bind fun _ =>
 (L.asInt .i64 (rd h (padd a0 1) 0)).bind fun x2 =>
 some (x2, h)))
abbrev ks225 : List SK := [.one .ref]
abbrev rs225 : List SK := [.one (.int .i64)]
def e225 (N : Nat) : Env := ⟨Tryz.prog, 10, inTab [], inTab [], natTab [], inTab [], calTab [(291, .ro (mkFun ks291 rs291 (F291 N)))], altTab [], loopTab [], natTab [], inTab [2]⟩
theorem fine225 (N : Nat) : Fine (e225 N) N 225 Tryz.f225 ks225 rs225 (F225 N) :=
  ⟨Tryz.func225, by kernel_rfl, by kernel_rfl, by kernel_rfl, loops_of trivial, by kernel_rfl, by kernel_rfl, fun _ => by kernel_rfl⟩
theorem good225 (N : Nat) : Go.L.Good (e225 N) := good_of ⟨gd291 N, trivial⟩
theorem gd225 (N : Nat) : CalOk Tryz.prog 225 (.ro (mkFun ks225 rs225 (F225 N))) := mkFun_ro (fine225 N) (good225 N) (by kernel_rfl)

/-! ### 297: tie.Ties).lives -/
def F297 (N : Nat) : V × H → Option (Bool × H)
 | (a0, h) =>
 (isNil a0).bind fun b1 =>
 (if (!b1) = true then (
 (nck a0).bind fun _ =>
 ((rd h (padd a0 0) 0)).bind fun x4 =>
 (isNilM x4).bind fun b5 =>
 some ((!b5), h))
 else (
 some (false, h))).bind fun (b2, h3) =>
 some (b2, h3)
abbrev ks297 : List SK := [.one .ref]
abbrev rs297 : List SK := [.one .bool]
def e297 (N : Nat) : Env := ⟨Tryz.prog, 12, inTab [], inTab [], natTab [], inTab [], calTab [], altTab [], loopTab [], natTab [], inTab []⟩
theorem fine297 (N : Nat) : Fine (e297 N) N 297 Tryz.f297 ks297 rs297 (F297 N) :=
  ⟨Tryz.func297, by kernel_rfl, by kernel_rfl, by kernel_rfl, loops_of trivial, by kernel_rfl, by kernel_rfl, fun _ => by kernel_rfl⟩
theorem good297 (N : Nat) : Go.L.Good (e297 N) := good_of trivial
theorem gd297 (N : Nat) : CalOk Tryz.prog 297 (.ro (mkFun ks297 rs297 (F297 N))) := mkFun_ro (fine297 N) (good297 N) (by kernel_rfl)

/-! ### 466: api.Tie] -/
def L466_0 (N : Nat) : Nat → Int × Int × H → Option (H)
 | 0, _ => none
 | n + 1, (x4, x5, h6) =>
 (if (decide (x5 < x4)) = true then (
 none)
 else (
 some h6))
def F466 (N : Nat) : V × Int × Int × V × H → Option (H)
 | (a0, a1, a2, a3, h) =>
 (L466_0 N N (a2, (IntKind.i64.wrap (a1 + 1)), h)).bind fun h7 =>
 some h7
abbrev ks466 : List SK := [.one .ref, .one (.int .i64), .one (.int .i64), .one .ref]
abbrev rs466 : List SK := []
def e466 (N : Nat) : Env := ⟨Tryz.prog, 53, inTab [], inTab [], natTab [], inTab [], calTab [], altTab [], loopTab [(1, ⟨⟨.normal, [2, 8], [.one (.int .i64), .one (.int .i64)], [], []⟩, [⟨(.exit 0), [], [], [], []⟩], L466_0 N⟩)], natTab [], inTab [2, 3, 4, 5, 6]⟩
theorem l466_0 (N : Nat) : ∀ A, (e466 N).lp (lid (loopAt Tryz.f466 0)) = some A → LoopOk (e466 N) N (loopAt Tryz.f466 0) A :=
  loopOk_of (A := ⟨⟨.normal, [2, 8], [.one (.int .i64), .one (.int .i64)], [], []⟩, [⟨(.exit 0), [], [], [], []⟩], L466_0 N⟩) (by kernel_rfl) (fun _ => rfl) (fun _ _ => by kernel_rfl)
theorem lv466_1 (N : Nat) : ∀ A, (e466 N).lp (lid (loopAt Tryz.f466 1)) = some A → LoopOk (e466 N) N (loopAt Tryz.f466 1) A := fun A h => by
 rw [show (e466 N).lp (lid (loopAt Tryz.f466 1)) = none by kernel_rfl] at h; cases h
theorem fine466 (N : Nat) : Fine (e466 N) N 466 Tryz.f466 ks466 rs466 (F466 N) :=
  ⟨Tryz.func466, by kernel_rfl, by kernel_rfl, by kernel_rfl, loops_of ⟨l466_0 N, ⟨lv466_1 N, trivial⟩⟩, by kernel_rfl, by kernel_rfl, fun _ => by kernel_rfl⟩
theorem good466 (N : Nat) : Go.L.Good (e466 N) := good_of trivial
theorem gdg466 (N : Nat) : CalOk Tryz.prog 466 (.gro (mkFun ks466 rs466 (F466 N))) := mkFun_groC (fine466 N) (good466 N) (by kernel_rfl)

/-! ### 381: api.Tie] -/
def L381_0 (N : Nat) (rec : V × Int × Int × Int × V × H → Option (H)) : Nat → V × Int × Int × V × H → Option (H)
 | 0, _ => none
 | n + 1, (x7, x8, x9, x10, h11) =>
 (if (decide ((IntKind.i64.wrap (x9 - x8)) ≤ 12)) = true then (
 (F466 N (x7, x8, x9, x10, h11)).bind fun h12 =>
 some h12)
 else (
 none))
def F381 (N : Nat) : Nat → V × Int × Int × Int × V × H → Option (H)
 | 0, _ => none
 | d + 1, (a0, a1, a2, a3, a4, h) =>
 (L381_0 N (F381 N d) N (a0, a1, a2, a4, h)).bind fun h13 =>
 some h13
abbrev ks381 : List SK := [.one .ref, .one (.int .i64), .one (.int .i64), .one (.int .i64), .one .ref]
abbrev rs381 : List SK := []
def e381 (N d : Nat) : Env := ⟨Tryz.prog, 148, inTab [], inTab [], natTab [], inTab [], calTab [(466, .gro (mkFun ks466 rs466 (F466 N)))], altTab [], loopTab [(2, ⟨⟨.normal, [0, 1, 2, 4], [.one .ref, .one (.int .i64), .one (.int .i64), .one .ref], [], []⟩, [⟨.ret, [], [], [], []⟩], L381_0 N (F381 N d)⟩)], natTab [], inTab [5, 6, 7, 8, 9, 10, 11, 12, 13, 14, 15, 16, 17, 18, 19, 20, 21, 22, 23, 24, 25, 26, 27, 28, 29, 30]⟩
theorem l381_0 (N d : Nat) : ∀ A, (e381 N d).lp (lid (loopAt Tryz.f381 0)) = some A → LoopOk (e381 N d) N (loopAt Tryz.f381 0) A :=
  loopOk_of (A := ⟨⟨.normal, [0, 1, 2, 4], [.one .ref, .one (.int .i64), .one (.int .i64), .one .ref], [], []⟩, [⟨.ret, [], [], [], []⟩], L381_0 N (F381 N d)⟩) (by kernel_rfl) (fun _ => rfl) (fun _ _ => by kernel_rfl)
theorem fine381 (N d : Nat) : Fine (e381 N d) N 381 Tryz.f381 ks381 rs381 (F381 N (d + 1)) :=
  ⟨Tryz.func381, by kernel_rfl, by kernel_rfl, by kernel_rfl, loops_of ⟨l381_0 N d, trivial⟩, by kernel_rfl, by kernel_rfl, fun _ => by kernel_rfl⟩
theorem gd381 (N : Nat) : ∀ d, CalOk Tryz.prog 381 (.full (mkFun ks381 rs381 (F381 N d)))
  | 0 => fun vs h s he => by obtain ⟨t, _, he⟩ := Option.bind_eq_some_iff.1 he; cases he
  | d + 1 => mkFun_good (fine381 N d) (good_of ⟨gdg466 N, trivial⟩)
theorem good381 (N d : Nat) : Go.L.Good (e381 N d) := good_of ⟨gdg466 N, trivial⟩

/-! ### 298: api.Tie] -/
def F298 (N : Nat) : V × V × H → Option (H)
 | (a0, a1, h) =>
 (slen a0).bind fun n1 =>
 (F382 100 ((IntKind.u64.wrap n1), [])).bind fun (x2, _) =>
 (F381 N N (a0, 0, n1, x2, a1, h)).bind fun h3 =>
 some h3
abbrev ks298 : List SK := [.one .ref, .one .ref]
abbrev rs298 : List SK := []
def e298 (N : Nat) : Env := ⟨Tryz.prog, 14, inTab [], inTab [], natTab [], inTab [], calTab [(382, .pure (mkP ks382 rs382 (F382 100))), (381, .full (mkFun ks381 rs381 (F381 N N)))], altTab [], loopTab [], natTab [], inTab []⟩
theorem fine298 (N : Nat) : Fine (e298 N) N 298 Tryz.f298 ks298 rs298 (F298 N) :=
  ⟨Tryz.func298, by kernel_rfl, by kernel_rfl, by kernel_rfl, loops_of trivial, by kernel_rfl, by kernel_rfl, fun _ => by kernel_rfl⟩
theorem good298 (N : Nat) : Go.L.Good (e298 N) := good_of ⟨gd382, ⟨gd381 N N, trivial⟩⟩
theorem gd298 (N : Nat) : CalOk Tryz.prog 298 (.full (mkFun ks298 rs298 (F298 N))) := mkFun_good (fine298 N) (good298 N)

/-! ### 549: slices.insertionSortOrdered[int] -/
def L549_0 (N : Nat) : Nat → Int × Int × H → Option (H)
 | 0, _ => none
 | n + 1, (x4, x5, h6) =>
 (if (decide (x5 < x4)) = true then (
 none)
 else (
 some h6))
def F549 (N : Nat) : V × Int × Int × H → Option (H)
 | (a0, a1, a2, h) =>
 (L549_0 N N (a2, (IntKind.i64.wrap (a1 + 1)), h)).bind fun h7 =>
 some h7
abbrev ks549 : List SK := [.one .ref, .one (.int .i64), .one (.int .i64)]
abbrev rs549 : List SK := []
def e549 (N : Nat) : Env := ⟨Tryz.prog, 49, inTab [], inTab [], natTab [], inTab [], calTab [], altTab [], loopTab [(1, ⟨⟨.normal, [2, 6], [.one (.int .i64), .one (.int .i64)], [], []⟩, [⟨(.exit 0), [], [], [], []⟩], L549_0 N⟩)], natTab [], inTab [2, 3, 4, 5, 6]⟩
theorem l549_0 (N : Nat) : ∀ A, (e549 N).lp (lid (loopAt Tryz.f549 0)) = some A → LoopOk (e549 N) N (loopAt Tryz.f549 0) A :=
  loopOk_of (A := ⟨⟨.normal, [2, 6], [.one (.int .i64), .one (.int .i64)], [], []⟩, [⟨(.exit 0), [], [], [], []⟩], L549_0 N⟩) (by kernel_rfl) (fun _ => rfl) (fun _ _ => by kernel_rfl)
theorem lv549_1 (N : Nat) : ∀ A, (e549 N).lp (lid (loopAt Tryz.f549 1)) = some A → LoopOk (e549 N) N (loopAt Tryz.f549 1) A := fun A h => by
 rw [show (e549 N).lp (lid (loopAt Tryz.f549 1)) = none by kernel_rfl] at h; cases h
theorem fine549 (N : Nat) : Fine (e549 N) N 549 Tryz.f549 ks549 rs549 (F549 N) :=
  ⟨Tryz.func549, by kernel_rfl, by kernel_rfl, by kernel_rfl, loops_of ⟨l549_0 N, ⟨lv549_1 N, trivial⟩⟩, by kernel_rfl, by kernel_rfl, fun _ => by kernel_rfl⟩
theorem good549 (N : Nat) : Go.L.Good (e549 N) := good_of trivial
theorem gdg549 (N : Nat) : CalOk Tryz.prog 549 (.gro (mkFun ks549 rs549 (F549 N))) := mkFun_groC (fine549 N) (good549 N) (by kernel_rfl)

/-! ### 476: slices.pdqsortOrdered[int] -/
def L476_0 (N : Nat) (rec : V × Int × Int × Int × H → Option (H)) : Nat → V × Int × Int × H → Option (H)
 | 0, _ => none
 | n + 1, (x6, x7, x8, h9) =>
 (if (decide ((IntKind.i64.wrap (x8 - x7)) ≤ 12)) = true then (
 (F549 N (x6, x7, x8, h9)).bind fun h10 =>
 some h10)
 else (
 none))
def F476 (N : Nat) : Nat → V × Int × Int × Int × H → Option (H)
 | 0, _ => none
 | d + 1, (a0, a1, a2, a3, h) =>
 (L476_0 N (F476 N d) N (a0, a1, a2, h)).bind fun h11 =>
 some h11
abbrev ks476 : List SK := [.one .ref, .one (.int .i64), .one (.int .i64), .one (.int .i64)]
abbrev rs476 : List SK := []
def e476 (N d : Nat) : Env := ⟨Tryz.prog, 134, inTab [], inTab [], natTab [], inTab [], calTab [(549, .gro (mkFun ks549 rs549 (F549 N)))], altTab [], loopTab [(2, ⟨⟨.normal, [0, 1, 2], [.one .ref, .one (.int .i64), .one (.int .i64)], [], []⟩, [⟨.ret, [], [], [], []⟩], L476_0 N (F476 N d)⟩)], natTab [], inTab [5, 6, 7, 8, 9, 10, 11, 12, 13, 14, 15, 16, 17, 18, 19, 20, 21, 22, 23, 24, 25, 26, 27, 28, 29, 30]⟩
theorem l476_0 (N d : Nat) : ∀ A, (e476 N d).lp (lid (loopAt Tryz.f476 0)) = some A → LoopOk (e476 N d) N (loopAt Tryz.f476 0) A :=
  loopOk_of (A := ⟨⟨.normal, [0, 1, 2], [.one .ref, .one (.int .i64), .one (.int .i64)], [], []⟩, [⟨.ret, [], [], [], []⟩], L476_0 N (F476 N d)⟩) (by kernel_rfl) (fun _ => rfl) (fun _ _ => by kernel_rfl)
theorem fine476 (N d : Nat) : Fine (e476 N d) N 476 Tryz.f476 ks476 rs476 (F476 N (d + 1)) :=
  ⟨Tryz.func476, by kernel_rfl, by kernel_rfl, by kernel_rfl, loops_of ⟨l476_0 N d, trivial⟩, by kernel_rfl, by kernel_rfl, fun _ => by kernel_rfl⟩
theorem gd476 (N : Nat) : ∀ d, CalOk Tryz.prog 476 (.full (mkFun ks476 rs476 (F476 N d)))
  | 0 => fun vs h s he => by obtain ⟨t, _, he⟩ := Option.bind_eq_some_iff.1 he; cases he
  | d + 1 => mkFun_good (fine476 N d) (good_of ⟨gdg549 N, trivial⟩)
theorem good476 (N d : Nat) : Go.L.Good (e476 N d) := good_of ⟨gdg549 N, trivial⟩

/-! ### 383: slices.Sort[[]int,int] -/
def F383 (N : Nat) : V × H → Option (H)
 | (a0, h) =>
 (slen a0).bind fun n1 =>
 (F382 100 ((IntKind.u64.wrap n1), [])).bind fun (x2, _) =>
 (F476 N N (a0, 0, n1, x2, h)).bind fun h3 =>
 some h3
abbrev ks383 : List SK := [.one .ref]
abbrev rs383 : List SK := []
def e383 (N : Nat) : Env := ⟨Tryz.prog, 11, inTab [], inTab [], natTab [], inTab [], calTab [(382, .pure (mkP ks382 rs382 (F382 100))), (476, .full (mkFun ks476 rs476 (F476 N N)))], altTab [], loopTab [], natTab [], inTab []⟩
theorem fine383 (N : Nat) : Fine (e383 N) N 383 Tryz.f383 ks383 rs383 (F383 N) :=
  ⟨Tryz.func383, by kernel_rfl, by kernel_rfl, by kernel_rfl, loops_of trivial, by kernel_rfl, by kernel_rfl, fun _ => by kernel_rfl⟩
theorem good383 (N : Nat) : Go.L.Good (e383 N) := good_of ⟨gd382, ⟨gd476 N N, trivial⟩⟩
theorem gd383 (N : Nat) : CalOk Tryz.prog 383 (.full (mkFun ks383 rs383 (F383 N))) := mkFun_good (fine383 N) (good383 N)

/-! ### 302: tie.Ties).refs -/
def L302_0 (N : Nat) : Nat → V × V × H → Option (V × H)
 | 0, _ => none
 | n + 1, (x11, x12, h13) =>
 (hnext h13 x12).bind fun (b14, k15, v16, h17) =>
 (if b14 = true then (
 (if true = true then (
 none)
 else (
 some (x11, h17))))
 else (
 (if false = true then (
 none)
 else (
 some (x11, h17)))))
def F302 (N : Nat) : V × V × H → Option (V × H)
 | (a0, a1, h) =>
 (nck a0).bind fun _ =>
 ((rd h (padd a0 1) 0)).bind fun x1 =>
 (hrange h x1).bind fun o2 =>
 (some (h ++ [o2]) : Option H).bind fun h3 =>
 (L302_0 N N (.nils, (.ptr (h).length 0 0), h3)).bind fun (x18, h19) =>
 (F383 N (x18, h19)).bind fun h20 =>
 some (x18, h20)
abbrev ks302 : List SK := [.one .ref, .one .ref]
abbrev rs302 : List SK := [.one .ref]
def e302 (N : Nat) : Env := ⟨Tryz.prog, 28, inTab [7, 23], inTab [], natTab [(7, 7)], inTab [], calTab [(383, .full (mkFun ks383 rs383 (F383 N)))], altTab [], loopTab [(3, ⟨⟨.normal, [5, 12], [.one .ref, .one .ref], [], []⟩, [⟨(.exit 0), [5], [.one .ref], [], []⟩], L302_0 N⟩)], natTab [(15, 332)], inTab [4, 5, 6]⟩
theorem l302_0 (N : Nat) : ∀ A, (e302 N).lp (lid (loopAt Tryz.f302 0)) = some A → LoopOk (e302 N) N (loopAt Tryz.f302 0) A :=
  loopOk_of (A := ⟨⟨.normal, [5, 12], [.one .ref, .one .ref], [], []⟩, [⟨(.exit 0), [5], [.one .ref], [], []⟩], L302_0 N⟩) (by kernel_rfl) (fun _ => rfl) (fun _ _ => by kernel_rfl)
theorem fine302 (N : Nat) : Fine (e302 N) N 302 Tryz.f302 ks302 rs302 (F302 N) :=
  ⟨Tryz.func302, by kernel_rfl, by kernel_rfl, by kernel_rfl, loops_of ⟨l302_0 N, trivial⟩, by kernel_rfl, by kernel_rfl, fun _ => by kernel_rfl⟩
theorem good302 (N : Nat) : Go.L.Good (e302 N) := good_of ⟨gd383 N, trivial⟩
theorem gd302 (N : Nat) : CalOk Tryz.prog 302 (.full (mkFun ks302 rs302 (F302 N))) := mkFun_good (fine302 N) (good302 N)

/-! ### 301: tie.Ties).told -/
def L301_0 (N : Nat) : Nat → V × Int × Int × H → Option (V × H)
 | 0, _ => none
 | n + 1, (x6, x7, x8, h9) =>
 (if (decide (x8 < x7)) = true then (
 none)
 else (
 some (x6, h9)))
def F301 (N : Nat) : V × V × H → Option (V × H)
 | (a0, a1, h) =>
 (slen a1).bind fun n1 =>
 (L301_0 N N (.nils, n1, 0, h)).bind fun (x10, h11) =>
 some (x10, h11)
abbrev ks301 : List SK := [.one .ref, .one .ref]
abbrev rs301 : List SK := [.one .ref]
def e301 (N : Nat) : Env := ⟨Tryz.prog, 32, inTab [8, 28], inTab [], natTab [(8, 8), (23, 8), (25, 8)], inTab [], calTab [], altTab [], loopTab [(3, ⟨⟨.normal, [5, 10, 11], [.one .ref, .one (.int .i64), .one (.int .i64)], [], []⟩, [⟨(.exit 0), [5], [.one .ref], [], []⟩], L301_0 N⟩)], natTab [], inTab [4, 5, 6, 7]⟩
theorem l301_0 (N : Nat) : ∀ A, (e301 N).lp (lid (loopAt Tryz.f301 0)) = some A → LoopOk (e301 N) N (loopAt Tryz.f301 0) A :=
  loopOk_of (A := ⟨⟨.normal, [5, 10, 11], [.one .ref, .one (.int .i64), .one (.int .i64)], [], []⟩, [⟨(.exit 0), [5], [.one .ref], [], []⟩], L301_0 N⟩) (by kernel_rfl) (fun _ => rfl) (fun _ _ => by kernel_rfl)
theorem fine301 (N : Nat) : Fine (e301 N) N 301 Tryz.f301 ks301 rs301 (F301 N) :=
  ⟨Tryz.func301, by kernel_rfl, by kernel_rfl, by kernel_rfl, loops_of ⟨l301_0 N, trivial⟩, by kernel_rfl, by kernel_rfl, fun _ => by kernel_rfl⟩
theorem good301 (N : Nat) : Go.L.Good (e301 N) := good_of trivial
theorem gd301 (N : Nat) : CalOk Tryz.prog 301 (.ro (mkFun ks301 rs301 (F301 N))) := mkFun_ro (fine301 N) (good301 N) (by kernel_rfl)

/-! ### 227: tie.Ties).All -/
def L227_0 (N : Nat) : Nat → V × V × V × H → Option (V × V × H)
 | 0, _ => none
 | n + 1, (x13, x14, x15, h16) =>
 (hnext h16 x15).bind fun (b17, k18, v19, h20) =>
 (if b17 = true then (
 (if true = true then (
 none)
 else (
 some (x13, x14, h20))))
 else (
 (if false = true then (
 none)
 else (
 some (x13, x14, h20)))))
def F227 (N : Nat) : V × H → Option (V × H)
 | (a0, h) =>
 (F297 N (a0, h)).bind fun (x1, _) =>
 (if (!x1) = true then (
 none)
 else (
 (nck a0).bind fun _ =>
 ((rd h (padd a0 0) 0)).bind fun x2 =>
 (hrange h x2).bind fun o3 =>
 (some (h ++ [o3]) : Option H).bind fun h4 =>
 (L227_0 N N (a0, .nils, (.ptr (h).length 0 0), h4)).bind fun (x21, x22, h23) =>
 (F298 N (x22, (.fn 299 []), h23)).bind fun h24 =>
 (F302 N (x21, (.fn 303 []), h24)).bind fun (x25, h26) =>
 (F301 N (x21, x25, h26)).bind fun (x27, _) =>
 (scells h26 x27 5).bind fun cs30 =>
 (happ h26 x22 5 (snlen x27) cs30).bind fun (v28, h29) =>
 some (v28, h29)))
abbrev ks227 : List SK := [.one .ref]
abbrev rs227 : List SK := [.one .ref]
def e227 (N : Nat) : Env := ⟨Tryz.prog, 33, inTab [4, 23], inTab [], natTab [(4, 4), (18, 4), (20, 4)], inTab [], calTab [(297, .ro (mkFun ks297 rs297 (F297 N))), (298, .full (mkFun ks298 rs298 (F298 N))), (302, .full (mkFun ks302 rs302 (F302 N))), (301, .ro (mkFun ks301 rs301 (F301 N)))], altTab [], loopTab [(5, ⟨⟨.normal, [0, 3, 12], [.one .ref, .one .ref, .one .ref], [], []⟩, [⟨(.exit 0), [0, 3], [.one .ref, .one .ref], [], []⟩], L227_0 N⟩)], natTab [(15, 331)], inTab [2, 6, 7]⟩
theorem l227_0 (N : Nat) : ∀ A, (e227 N).lp (lid (loopAt Tryz.f227 0)) = some A → LoopOk (e227 N) N (loopAt Tryz.f227 0) A :=
  loopOk_of (A := ⟨⟨.normal, [0, 3, 12], [.one .ref, .one .ref, .one .ref], [], []⟩, [⟨(.exit 0), [0, 3], [.one .ref, .one .ref], [], []⟩], L227_0 N⟩) (by kernel_rfl) (fun _ => rfl) (fun _ _ => by kernel_rfl)
theorem fine227 (N : Nat) : Fine (e227 N) N 227 Tryz.f227 ks227 rs227 (F227 N) :=
  ⟨Tryz.func227, by kernel_rfl, by kernel_rfl, by kernel_rfl, loops_of ⟨l227_0 N, trivial⟩, by kernel_rfl, by kernel_rfl, fun _ => by kernel_rfl⟩
theorem good227 (N : Nat) : Go.L.Good (e227 N) := good_of ⟨gd297 N, ⟨gd298 N, ⟨gd302 N, ⟨gd301 N, trivial⟩⟩⟩⟩
theorem gd227 (N : Nat) : CalOk Tryz.prog 227 (.full (mkFun ks227 rs227 (F227 N))) := mkFun_good (fine227 N) (good227 N)
theorem gl227 (N : Nat) : CalOk Tryz.prog 227 (.gro (mkFun ks227 rs227 (locF true ks227 rs227 (F227 N)))) := loc_gro (gd227 N)

/-! ### 228: api.Out] -/
def F228 (N : Nat) : V × H → Option (V × H)
 | (a0, h) =>
 (isNilS a0).bind fun b1 =>
 (if b1 = true then (
 some (.nils, h))
 else (
 none))
abbrev ks228 : List SK := [.one .ref]
abbrev rs228 : List SK := [.one .ref]
def e228 (N : Nat) : Env := ⟨Tryz.prog, 8, inTab [], inTab [], natTab [], inTab [], calTab [], altTab [], loopTab [], natTab [], inTab [3]⟩
theorem fine228 (N : Nat) : Fine (e228 N) N 228 Tryz.f228 ks228 rs228 (F228 N) :=
  ⟨Tryz.func228, by kernel_rfl, by kernel_rfl, by kernel_rfl, loops_of trivial, by kernel_rfl, by kernel_rfl, fun _ => by kernel_rfl⟩
theorem good228 (N : Nat) : Go.L.Good (e228 N) := good_of trivial
theorem gd228 (N : Nat) : CalOk Tryz.prog 228 (.ro (mkFun ks228 rs228 (F228 N))) := mkFun_ro (fine228 N) (good228 N) (by kernel_rfl)

/-! ### 374: table.Table).Is -/
def F374 (N : Nat) : V × Int × Int × H → Option (Bool × H)
 | (a0, a1_0, a1_1, h) =>
 (F286 N (a0, h)).bind fun (x1, _) =>
 (if x1 = true then (
 some ((decide (a1_0 ≥ 0)), h))
 else (
 some (false, h))).bind fun (b2, h3) =>
 (if b2 = true then (
 (nck a0).bind fun _ =>
 ((rd h3 (padd a0 0) 0)).bind fun x6 =>
 (slen x6).bind fun n7 =>
 some ((decide (a1_0 < n7)), h3))
 else (
 some (false, h3))).bind fun (b4, h5) =>
 (if b4 = true then (
 (nck a0).bind fun _ =>
 ((rd h5 (padd a0 0) 0)).bind fun x10 =>
 (sidx x10 a1_0 3).bind fun q11 =>
 (L.asBool (rd h5 (padd q11 1) 0)).bind fun x12 =>
 some (x12, h5))
 else (
 some (false, h5))).bind fun (b8, h9) =>
 (if b8 = true then (
 (nck a0).bind fun _ =>
 ((rd h9 (padd a0 0) 0)).bind fun x15 =>
 (sidx x15 a1_0 3).bind fun q16 =>
 (L.asInt .i64 (rd h9 (padd q16 0) 0)).bind fun x17 =>
 some ((x17 == a1_1), h9))
 else (
 some (false, h9))).bind fun (b13, h14) =>
 some (b13, h14)
abbrev ks374 : List SK := [.one .ref, .agg [(.int .i64), (.int .i64)]]
abbrev rs374 : List SK := [.one .bool]
def e374 (N : Nat) : Env := ⟨Tryz.prog, 47, inTab [3], inTab [], natTab [(3, 3), (8, 3), (13, 3), (27, 3), (38, 3), (43, 3)], inTab [], calTab [(286, .ro (mkFun ks286 rs286 (F286 N)))], altTab [], loopTab [], natTab [], inTab []⟩
theorem fine374 (N : Nat) : Fine (e374 N) N 374 Tryz.f374 ks374 rs374 (F374 N) :=
  ⟨Tryz.func374, by kernel_rfl, by kernel_rfl, by kernel_rfl, loops_of trivial, by kernel_rfl, by kernel_rfl, fun _ => by kernel_rfl⟩
theorem good374 (N : Nat) : Go.L.Good (e374 N) := good_of ⟨gd286 N, trivial⟩
theorem gd374 (N : Nat) : CalOk Tryz.prog 374 (.ro (mkFun ks374 rs374 (F374 N))) := mkFun_ro (fine374 N) (good374 N) (by kernel_rfl)

/-! ### 288: table.Table).NameOf -/
def F288 (N : Nat) : V × Int × Int × H → Option (ByteArray × H)
 | (a0, a1_0, a1_1, h) =>
 (F374 N (a0, a1_0, a1_1, h)).bind fun (x1, _) =>
 (if (!x1) = true then (
 none)
 else (
 (nck a0).bind fun _ =>
 ((rd h (padd a0 0) 0)).bind fun x2 =>
 (sidx x2 a1_0 3).bind fun q3 =>
 (L.asStr (rd h (padd q3 2) 0)).bind fun x4 =>
 some (x4, h)))
abbrev ks288 : List SK := [.one .ref, .agg [(.int .i64), (.int .i64)]]
abbrev rs288 : List SK := [.one .str]
def e288 (N : Nat) : Env := ⟨Tryz.prog, 18, inTab [3], inTab [], natTab [(3, 3), (13, 3)], inTab [], calTab [(374, .ro (mkFun ks374 rs374 (F374 N)))], altTab [], loopTab [], natTab [], inTab [2]⟩
theorem fine288 (N : Nat) : Fine (e288 N) N 288 Tryz.f288 ks288 rs288 (F288 N) :=
  ⟨Tryz.func288, by kernel_rfl, by kernel_rfl, by kernel_rfl, loops_of trivial, by kernel_rfl, by kernel_rfl, fun _ => by kernel_rfl⟩
theorem good288 (N : Nat) : Go.L.Good (e288 N) := good_of ⟨gd374 N, trivial⟩
theorem gd288 (N : Nat) : CalOk Tryz.prog 288 (.ro (mkFun ks288 rs288 (F288 N))) := mkFun_ro (fine288 N) (good288 N) (by kernel_rfl)

/-! ### 289: box.Box).given -/
def F289 (N : Nat) : V × H → Option (Bool × H)
 | (a0, h) =>
 (isNil a0).bind fun b1 =>
 (if (!b1) = true then (
 (nck a0).bind fun _ =>
 (L.asBool (rd h (padd a0 0) 0)).bind fun x4 =>
 some (x4, h))
 else (
 some (false, h))).bind fun (b2, h3) =>
 some (b2, h3)
abbrev ks289 : List SK := [.one .ref]
abbrev rs289 : List SK := [.one .bool]
def e289 (N : Nat) : Env := ⟨Tryz.prog, 11, inTab [], inTab [], natTab [], inTab [], calTab [], altTab [], loopTab [], natTab [], inTab []⟩
theorem fine289 (N : Nat) : Fine (e289 N) N 289 Tryz.f289 ks289 rs289 (F289 N) :=
  ⟨Tryz.func289, by kernel_rfl, by kernel_rfl, by kernel_rfl, loops_of trivial, by kernel_rfl, by kernel_rfl, fun _ => by kernel_rfl⟩
theorem good289 (N : Nat) : Go.L.Good (e289 N) := good_of trivial
theorem gd289 (N : Nat) : CalOk Tryz.prog 289 (.ro (mkFun ks289 rs289 (F289 N))) := mkFun_ro (fine289 N) (good289 N) (by kernel_rfl)

/-! ### 290: box.lane -/
def F290 (N : Nat) : Int × H → Option (Bool × H)
 | (a0, h) =>
 (if (decide (a0 ≥ 0)) = true then (
 some ((decide (a0 < 2)), h))
 else (
 some (false, h))).bind fun (b1, h2) =>
 some (b1, h2)
abbrev ks290 : List SK := [.one (.int .i64)]
abbrev rs290 : List SK := [.one .bool]
def e290 (N : Nat) : Env := ⟨Tryz.prog, 9, inTab [], inTab [], natTab [], inTab [], calTab [], altTab [], loopTab [], natTab [], inTab []⟩
theorem fine290 (N : Nat) : Fine (e290 N) N 290 Tryz.f290 ks290 rs290 (F290 N) :=
  ⟨Tryz.func290, by kernel_rfl, by kernel_rfl, by kernel_rfl, loops_of trivial, by kernel_rfl, by kernel_rfl, fun _ => by kernel_rfl⟩
theorem good290 (N : Nat) : Go.L.Good (e290 N) := good_of trivial
theorem gd290 : CalOk Tryz.prog 290 (.pure (mkP ks290 rs290 (F290 100))) := mkP_good (fine290 100) (good290 100) (by kernel_rfl) (by kernel_rfl)

/-! ### 222: box.Box).Lane -/
def F222 (N : Nat) : V × Int × H → Option (V × H)
 | (a0, a1, h) =>
 (F289 N (a0, h)).bind fun (x1, _) =>
 (if (!x1) = true then (
 some (true, h))
 else (
 (F290 100 (a1, [])).bind fun (x4, _) =>
 some ((!x4), h))).bind fun (b2, h3) =>
 (if b2 = true then (
 none)
 else (
 (nck a0).bind fun _ =>
 (aidx (padd a0 1) a1 2 1).bind fun q5 =>
 ((rd h3 q5 0)).bind fun x6 =>
 (scells h3 x6 7).bind fun cs9 =>
 (happ h3 .nils 7 (snlen x6) cs9).bind fun (v7, h8) =>
 some (v7, h8)))
abbrev ks222 : List SK := [.one .ref, .one (.int .i64)]
abbrev rs222 : List SK := [.one .ref]
def e222 (N : Nat) : Env := ⟨Tryz.prog, 20, inTab [], inTab [], natTab [], inTab [], calTab [(289, .ro (mkFun ks289 rs289 (F289 N))), (290, .pure (mkP ks290 rs290 (F290 100)))], altTab [], loopTab [], natTab [], inTab [2]⟩
theorem fine222 (N : Nat) : Fine (e222 N) N 222 Tryz.f222 ks222 rs222 (F222 N) :=
  ⟨Tryz.func222, by kernel_rfl, by kernel_rfl, by kernel_rfl, loops_of trivial, by kernel_rfl, by kernel_rfl, fun _ => by kernel_rfl⟩
theorem good222 (N : Nat) : Go.L.Good (e222 N) := good_of ⟨gd289 N, ⟨gd290, trivial⟩⟩
theorem gdg222 (N : Nat) : CalOk Tryz.prog 222 (.gro (mkFun ks222 rs222 (F222 N))) := mkFun_groC (fine222 N) (good222 N) (by kernel_rfl)

/-! ### 269: box.Box).Len -/
def F269 (N : Nat) : V × Int × H → Option (Int × H)
 | (a0, a1, h) =>
 (F222 N (a0, a1, h)).bind fun (x1, h2) =>
 (slen x1).bind fun n3 =>
 some (n3, h2)
abbrev ks269 : List SK := [.one .ref, .one (.int .i64)]
abbrev rs269 : List SK := [.one (.int .i64)]
def e269 (N : Nat) : Env := ⟨Tryz.prog, 9, inTab [], inTab [], natTab [], inTab [], calTab [(222, .gro (mkFun ks222 rs222 (F222 N)))], altTab [], loopTab [], natTab [], inTab []⟩
theorem fine269 (N : Nat) : Fine (e269 N) N 269 Tryz.f269 ks269 rs269 (F269 N) :=
  ⟨Tryz.func269, by kernel_rfl, by kernel_rfl, by kernel_rfl, loops_of trivial, by kernel_rfl, by kernel_rfl, fun _ => by kernel_rfl⟩
theorem good269 (N : Nat) : Go.L.Good (e269 N) := good_of ⟨gdg222 N, trivial⟩
theorem gdg269 (N : Nat) : CalOk Tryz.prog 269 (.gro (mkFun ks269 rs269 (F269 N))) := mkFun_groC (fine269 N) (good269 N) (by kernel_rfl)

/-! ### 221: node.Node).told -/
def F221 (N : Nat) : V × V × H → Option (Int × Int × ByteArray × Int × Int × Int × Int × Bool × Bool × Int × Int × Int × V × V × H)
 | (a0, a1, h) =>
 (nck a1).bind fun _ =>
 (L.asInt .i64 (rd h (padd a1 0) 0)).bind fun x1 =>
 (L.asInt .i64 (rd h (padd a1 0) 1)).bind fun x2 =>
 (nck a0).bind fun _ =>
 ((rd h (padd a0 2) 0)).bind fun x3 =>
 (nck a1).bind fun _ =>
 (L.asInt .i64 (rd h (padd a1 0) 0)).bind fun x4 =>
 (L.asInt .i64 (rd h (padd a1 0) 1)).bind fun x5 =>
 (F288 N (x3, x4, x5, h)).bind fun (x6, _) =>
 (nck a1).bind fun _ =>
 (L.asInt .i64 (rd h (padd a1 7) 0)).bind fun x7 =>
 (nck a1).bind fun _ =>
 (L.asInt .i64 (rd h (padd a1 3) 0)).bind fun x8 =>
 (nck a1).bind fun _ =>
 (L.asInt .i64 (rd h (padd a1 2) 0)).bind fun x9 =>
 (nck a1).bind fun _ =>
 (L.asInt .i64 (rd h (padd a1 4) 0)).bind fun x10 =>
 (nck a1).bind fun _ =>
 (L.asBool (rd h (padd a1 8) 0)).bind fun x11 =>
 (nck a1).bind fun _ =>
 (L.asBool (rd h (padd a1 9) 0)).bind fun x12 =>
 (nck a1).bind fun _ =>
 (L.asInt .i64 (rd h (padd a1 10) 0)).bind fun x13 =>
 (nck a1).bind fun _ =>
 ((rd h (padd a1 6) 0)).bind fun x14 =>
 (nck a1).bind fun _ =>
 ((rd h (padd a1 6) 0)).bind fun x15 =>
 (nck a1).bind fun _ =>
 ((rd h (padd a1 5) 0)).bind fun x16 =>
 (F269 N (x14, 0, h)).bind fun (x17, h18) =>
 (F269 N (x15, 1, h18)).bind fun (x19, h20) =>
 Option.bind (α := (V × V × H)) (locF true ks44 rs44 (F44 N) ((x16, h20) : V × H)) fun (x21, x22, h23) =>
 some (x1, x2, x6, x7, x8, x9, x10, x11, x12, x13, x17, x19, x21, x22, h23)
abbrev ks221 : List SK := [.one .ref, .one .ref]
abbrev rs221 : List SK := [.agg [(.int .i64), (.int .i64), .str, (.int .i64), (.int .i64), (.int .i64), (.int .i64), .bool, .bool, (.int .i64), (.int .i64), (.int .i64), .ref, .ref]]
def e221 (N : Nat) : Env := ⟨Tryz.prog, 62, inTab [4], inTab [], natTab [(4, 4)], inTab [], calTab [(288, .ro (mkFun ks288 rs288 (F288 N))), (269, .gro (mkFun ks269 rs269 (F269 N))), (44, .gro (mkFun ks44 rs44 (locF true ks44 rs44 (F44 N))))], altTab [], loopTab [], natTab [], inTab []⟩
theorem fine221 (N : Nat) : Fine (e221 N) N 221 Tryz.f221 ks221 rs221 (F221 N) :=
  ⟨Tryz.func221, by kernel_rfl, by kernel_rfl, by kernel_rfl, loops_of trivial, by kernel_rfl, by kernel_rfl, fun _ => by kernel_rfl⟩
theorem good221 (N : Nat) : Go.L.Good (e221 N) := good_of ⟨gd288 N, ⟨gdg269 N, ⟨gl44 N, trivial⟩⟩⟩
theorem gdg221 (N : Nat) : CalOk Tryz.prog 221 (.gro (mkFun ks221 rs221 (F221 N))) := mkFun_groC (fine221 N) (good221 N) (by kernel_rfl)

/-! ### 223: box.Box).Marks -/
def F223 (N : Nat) : V × H → Option (List V × H)
 | (a0, h) =>
 (F289 N (a0, h)).bind fun (x1, _) =>
 (if (!x1) = true then (
 none)
 else (
 (nck a0).bind fun _ =>
 (rdN h (padd a0 3) 2).bind fun cs2 =>
 (if (cs2).length = 2 then (
 (if 0 + (cs2).length ≤ 2 then (
 ((if 0 + 2 ≤ ((splice [(.int .i64 0), (.int .i64 0)] 0 cs2)).length then some ((((splice [(.int .i64 0), (.int .i64 0)] 0 cs2)).drop 0).take 2) else none) : Option (List V)).bind fun cs3 =>
 some (cs3, h)) else none)) else none)))
abbrev ks223 : List SK := [.one .ref]
abbrev rs223 : List SK := [.blk]
def e223 (N : Nat) : Env := ⟨Tryz.prog, 11, inTab [2], inTab [], natTab [(2, 2)], inTab [], calTab [(289, .ro (mkFun ks289 rs289 (F289 N)))], altTab [], loopTab [], natTab [], inTab [2]⟩
theorem fine223 (N : Nat) : Fine (e223 N) N 223 Tryz.f223 ks223 rs223 (F223 N) :=
  ⟨Tryz.func223, by kernel_rfl, by kernel_rfl, by kernel_rfl, loops_of trivial, by kernel_rfl, by kernel_rfl, fun _ => by kernel_rfl⟩
theorem good223 (N : Nat) : Go.L.Good (e223 N) := good_of ⟨gd289 N, trivial⟩
theorem gd223 (N : Nat) : CalOk Tryz.prog 223 (.ro (mkFun ks223 rs223 (F223 N))) := mkFun_ro (fine223 N) (good223 N) (by kernel_rfl)

/-! ### 151: fair.spots -/
def L151_2 (N : Nat) : Nat → V × Int × Int × Int × Int × V × Int × Int × V × V × V × V × V × V × V × V × V × V × Int × Int × V × H → Option (V × Int × Int × Int × Int × V × V × V × V × V × V × V × V × V × V × Int × Int × V × H)
 | 0, _ => none
 | n + 1, (x70, x71, x72, x73, x74, x75, x76, x77, x78, x79, x80, x81, x82, x83, x84, x85, x86, x87, x88, x89, x90, h91) =>
 (if (decide (x77 < x76)) = true then (
 (sidx x75 x77 3).bind fun q92 =>
 (L.asInt .i64 (rd h91 q92 0)).bind fun x93 =>
 (L.asInt .i64 (rd h91 q92 1)).bind fun x94 =>
 (L.asBool (rd h91 q92 2)).bind fun x95 =>
 (hmapset h91 x70 (.agg [(.int .i64 x93), (.int .i64 x94)]) (.agg [(.int .i64 x71), (.int .i64 x77)])).bind fun h96 =>
 L151_2 N n (x70, x71, x72, x73, x74, x75, x76, (IntKind.i64.wrap (x77 + 1)), x78, x79, x80, x81, x82, x83, x84, x85, x86, x87, x88, x89, x90, h96))
 else (
 some (x70, x71, x72, x73, x74, x78, x79, x80, x81, x82, x83, x84, x85, x86, x87, x88, x89, x90, h91)))
def L151_1 (N : Nat) : Nat → V × Int × Int × Int × Int × V × V × V × V × V × V × V × V × V × V × Int × Int × V × H → Option (V × Int × Int × V × V × V × V × V × V × V × V × V × V × Int × Int × V × H)
 | 0, _ => none
 | n + 1, (x116, x117, x118, x119, x120, x121, x122, x123, x124, x125, x126, x127, x128, x129, x130, x131, x132, x133, h134) =>
 (if (decide (x120 < 3)) = true then (
 (sidx x125 x117 3).bind fun q135 =>
 (aidx q135 x120 3 1).bind fun q136 =>
 ((rd h134 q136 0)).bind fun x137 =>
 (slen x137).bind fun n138 =>
 (L151_2 N N (x116, x117, x118, x119, x120, x137, n138, 0, x121, x122, x123, x124, x125, x126, x127, x128, x129, x130, x131, x132, x133, h134)).bind fun (x139, x140, x141, x142, x143, x144, x145, x146, x147, x148, x149, x150, x151, x152, x153, x154, x155, x156, h157) =>
 L151_1 N n (x139, x140, x141, x142, (IntKind.i64.wrap (x143 + 1)), x144, x145, x146, x147, x148, x149, x150, x151, x152, x153, x154, x155, x156, h157))
 else (
 some (x116, x118, x119, x121, x122, x123, x124, x125, x126, x127, x128, x129, x130, x131, x132, x133, h134)))
def L151_0 (N : Nat) : Nat → V × Int × Int × V × V × V × V × V × V × V × V × V × V × Int × Int × V × H → Option (V × H)
 | 0, _ => none
 | n + 1, (x175, x176, x177, x178, x179, x180, x181, x182, x183, x184, x185, x186, x187, x188, x189, x190, h191) =>
 (if (decide (x177 < x176)) = true then (
 (L151_1 N N (x175, x177, x176, x177, 0, x178, x179, x180, x181, x182, x183, x184, x185, x186, x187, x188, x189, x190, h191)).bind fun (x192, x193, x194, x195, x196, x197, x198, x199, x200, x201, x202, x203, x204, x205, x206, x207, h208) =>
 L151_0 N n (x192, x193, (IntKind.i64.wrap (x194 + 1)), x195, x196, x197, x198, x199, x200, x201, x202, x203, x204, x205, x206, x207, h208))
 else (
 some (x175, h191)))
def F151 (N : Nat) : V × V × V × V × V × V × V × V × V × V × Int × Int × V × H → Option (V × H)
 | (a0_0, a0_1, a0_2, a0_3, a0_4, a0_5, a0_6, a0_7, a0_8, a0_9, a0_10, a0_11, a0_12, h) =>
 (some (h ++ [O.map 0 [] []]) : Option H).bind fun h1 =>
 (slen a0_4).bind fun n2 =>
 (L151_0 N N ((.map (h).length), n2, 0, a0_0, a0_1, a0_2, a0_3, a0_4, a0_5, a0_6, a0_7, a0_8, a0_9, a0_10, a0_11, a0_12, h1)).bind fun (x209, h210) =>
 some (x209, h210)
abbrev ks151 : List SK := [.agg [.ref, .ref, .ref, .ref, .ref, .ref, .ref, .ref, .ref, .ref, (.int .i64), (.int .i64), .ref]]
abbrev rs151 : List SK := [.one .ref]
def e151 (N : Nat) : Env := ⟨Tryz.prog, 41, inTab [1, 7], inTab [], natTab [(1, 1), (7, 7), (9, 1), (18, 1), (32, 7)], inTab [], calTab [], altTab [], loopTab [(3, ⟨⟨.normal, [1, 3, 11, 12], [.lp 1 0, .one .ref, .one (.int .i64), .one (.int .i64)], [1], [.cells [.ref, .ref, .ref, .ref, .ref, .ref, .ref, .ref, .ref, .ref, (.int .i64), (.int .i64), .ref]]⟩, [⟨(.exit 0), [3], [.one .ref], [], []⟩], L151_0 N⟩), (6, ⟨⟨.normal, [1, 3, 4, 11, 12, 15], [.lp 1 0, .one .ref, .one (.int .i64), .one (.int .i64), .one (.int .i64), .one (.int .i64)], [1], [.cells [.ref, .ref, .ref, .ref, .ref, .ref, .ref, .ref, .ref, .ref, (.int .i64), (.int .i64), .ref]]⟩, [⟨(.exit 2), [1, 3, 11, 12], [.lp 1 0, .one .ref, .one (.int .i64), .one (.int .i64)], [1], [.cells [.ref, .ref, .ref, .ref, .ref, .ref, .ref, .ref, .ref, .ref, (.int .i64), (.int .i64), .ref]]⟩], L151_1 N⟩), (9, ⟨⟨.normal, [1, 3, 4, 11, 12, 15, 24, 25, 26], [.lp 1 0, .one .ref, .one (.int .i64), .one (.int .i64), .one (.int .i64), .one (.int .i64), .one .ref, .one (.int .i64), .one (.int .i64)], [1], [.cells [.ref, .ref, .ref, .ref, .ref, .ref, .ref, .ref, .ref, .ref, (.int .i64), (.int .i64), .ref]]⟩, [⟨(.exit 4), [1, 3, 4, 11, 12, 15], [.lp 1 0, .one .ref, .one (.int .i64), .one (.int .i64), .one (.int .i64), .one (.int .i64)], [1], [.cells [.ref, .ref, .ref, .ref, .ref, .ref, .ref, .ref, .ref, .ref, (.int .i64), (.int .i64), .ref]]⟩], L151_2 N⟩)], natTab [], inTab []⟩
theorem l151_0 (N : Nat) : ∀ A, (e151 N).lp (lid (loopAt Tryz.f151 0)) = some A → LoopOk (e151 N) N (loopAt Tryz.f151 0) A :=
  loopOk_of (A := ⟨⟨.normal, [1, 3, 11, 12], [.lp 1 0, .one .ref, .one (.int .i64), .one (.int .i64)], [1], [.cells [.ref, .ref, .ref, .ref, .ref, .ref, .ref, .ref, .ref, .ref, (.int .i64), (.int .i64), .ref]]⟩, [⟨(.exit 0), [3], [.one .ref], [], []⟩], L151_0 N⟩) (by kernel_rfl) (fun _ => rfl) (fun _ _ => by kernel_rfl)
theorem l151_1 (N : Nat) : ∀ A, (e151 N).lp (lid (loopAt Tryz.f151 1)) = some A → LoopOk (e151 N) N (loopAt Tryz.f151 1) A :=
  loopOk_of (A := ⟨⟨.normal, [1, 3, 4, 11, 12, 15], [.lp 1 0, .one .ref, .one (.int .i64), .one (.int .i64), .one (.int .i64), .one (.int .i64)], [1], [.cells [.ref, .ref, .ref, .ref, .ref, .ref, .ref, .ref, .ref, .ref, (.int .i64), (.int .i64), .ref]]⟩, [⟨(.exit 2), [1, 3, 11, 12], [.lp 1 0, .one .ref, .one (.int .i64), .one (.int .i64)], [1], [.cells [.ref, .ref, .ref, .ref, .ref, .ref, .ref, .ref, .ref, .ref, (.int .i64), (.int .i64), .ref]]⟩], L151_1 N⟩) (by kernel_rfl) (fun _ => rfl) (fun _ _ => by kernel_rfl)
theorem l151_2 (N : Nat) : ∀ A, (e151 N).lp (lid (loopAt Tryz.f151 2)) = some A → LoopOk (e151 N) N (loopAt Tryz.f151 2) A :=
  loopOk_of (A := ⟨⟨.normal, [1, 3, 4, 11, 12, 15, 24, 25, 26], [.lp 1 0, .one .ref, .one (.int .i64), .one (.int .i64), .one (.int .i64), .one (.int .i64), .one .ref, .one (.int .i64), .one (.int .i64)], [1], [.cells [.ref, .ref, .ref, .ref, .ref, .ref, .ref, .ref, .ref, .ref, (.int .i64), (.int .i64), .ref]]⟩, [⟨(.exit 4), [1, 3, 4, 11, 12, 15], [.lp 1 0, .one .ref, .one (.int .i64), .one (.int .i64), .one (.int .i64), .one (.int .i64)], [1], [.cells [.ref, .ref, .ref, .ref, .ref, .ref, .ref, .ref, .ref, .ref, (.int .i64), (.int .i64), .ref]]⟩], L151_2 N⟩) (by kernel_rfl) (fun _ => rfl) (fun _ _ => by kernel_rfl)
theorem fine151 (N : Nat) : Fine (e151 N) N 151 Tryz.f151 ks151 rs151 (F151 N) :=
  ⟨Tryz.func151, by kernel_rfl, by kernel_rfl, by kernel_rfl, loops_of ⟨l151_0 N, ⟨l151_1 N, ⟨l151_2 N, trivial⟩⟩⟩, by kernel_rfl, by kernel_rfl, fun _ => by kernel_rfl⟩
theorem good151 (N : Nat) : Go.L.Good (e151 N) := good_of trivial
theorem gd151 (N : Nat) : CalOk Tryz.prog 151 (.full (mkFun ks151 rs151 (F151 N))) := mkFun_good (fine151 N) (good151 N)

/-! ### 152: fair.watch).through -/
def F152 (N : Nat) : V × Int × Int × Int × Int × List V × Int × Int × Bool × H → Option (H)
 | (a0, a1_0, a1_1, a2_0, a2_1, a3, a4_0, a4_1, a5, h) =>
 (if (a3).length = 29 then (
 (nck a0).bind fun _ =>
 ((rd h (padd a0 1) 0)).bind fun x1 =>
 (sidx x1 a2_0 7).bind fun q2 =>
 (L.asInt .i64 a3[0]?).bind fun x3 =>
 (if (x3 == 5) = true then (
 (L.asBool a3[9]?).bind fun x6 =>
 some ((!x6), h))
 else (
 some (false, h))).bind fun (b4, h5) =>
 (if b4 = true then (
 (L.asInt .i64 a3[15]?).bind fun x9 =>
 (L.asInt .i64 a3[16]?).bind fun x10 =>
 some (((x9 == a1_0) && ((x10 == a1_1) && true)), h5))
 else (
 some (false, h5))).bind fun (b7, h8) =>
 ((if b7 = true then (
 (L.asInt .i64 a3[1]?).bind fun x11 =>
 some (a0, a5, q2, b7, x11, a1_0, a1_1, a2_0, a2_1, a3, h8))
 else (
 some (a0, a5, q2, b7, a4_0, a1_0, a1_1, a2_0, a2_1, a3, h8))) : Option (V × Bool × V × Bool × Int × Int × Int × Int × Int × List V × H)).bind fun (x12, x13, x14, x15, x16, x17, x18, x19, x20, cs21, h22) =>
 (if (!x15) = true then (
 some ((!x13), h22))
 else (
 some (false, h22))).bind fun (b23, h24) =>
 (if b23 = true then (
 none)
 else (
 (if (x16 != x20) = true then (
 none)
 else (
 (L.asInt .i64 cs21[0]?).bind fun x25 =>
 (if (x25 == 5) = true then (
 (L.asInt .i64 cs21[1]?).bind fun x28 =>
 some ((x16 == x28), h24))
 else (
 some (false, h24))).bind fun (b26, h27) =>
 ((if b26 = true then (
 (nck x14).bind fun _ =>
 (L.asInt .i64 (rd h27 (padd x14 3) 0)).bind fun x29 =>
 (nck x14).bind fun _ =>
 (wr h27 (padd x14 3) [(.int .i64 (IntKind.i64.wrap (x29 + 1)))]).bind fun h30 =>
 some (x12, x14, x15, x16, x17, x18, x19, x20, h30))
 else (
 some (x12, x14, x15, x16, x17, x18, x19, x20, h27))) : Option (V × V × Bool × Int × Int × Int × Int × Int × H)).bind fun (x31, x32, x33, x34, x35, x36, x37, x38, h39) =>
 (if x33 = true then (
 (nck x32).bind fun _ =>
 (wr h39 (padd x32 6) [(.bool true)]).bind fun h40 =>
 (nck x31).bind fun _ =>
 ((rd h40 (padd x31 2) 0)).bind fun x41 =>
 (hmapdel h40 x41 (.agg [(.int .i64 x35), (.int .i64 x36)])).bind fun h42 =>
 some h42)
 else (
 (nck x31).bind fun _ =>
 ((rd h39 (padd x31 2) 0)).bind fun x43 =>
 (hmapset h39 x43 (.agg [(.int .i64 x35), (.int .i64 x36)]) (.agg [(.int .i64 x37), (.int .i64 x34)])).bind fun h44 =>
 some h44))))))) else none)
abbrev ks152 : List SK := [.one .ref, .agg [(.int .i64), (.int .i64)], .agg [(.int .i64), (.int .i64)], .blk, .agg [(.int .i64), (.int .i64)], .one .bool]
abbrev rs152 : List SK := []
def e152 (N : Nat) : Env := ⟨Tryz.prog, 99, inTab [7, 8, 9, 10], inTab [], natTab [(7, 7), (8, 8), (9, 9), (10, 10), (19, 8), (22, 9), (26, 9), (27, 9), (32, 9), (33, 9), (38, 10), (41, 9), (55, 8), (65, 9), (70, 9), (95, 8)], inTab [], calTab [], altTab [(327720, [⟨.normal, [0, 5, 7, 8, 9, 12, 13, 14], [.one .ref, .one .bool, .lp 7 0, .lp 8 0, .lp 9 0, .one .ref, .one .bool, .one (.int .i64)], [7, 8, 9], [.cells [(.int .i64), (.int .i64)], .cells [(.int .i64), (.int .i64)], .blk]⟩]), (720969, [⟨.normal, [0, 7, 8, 12, 13, 14], [.one .ref, .lp 7 0, .lp 8 0, .one .ref, .one .bool, .one (.int .i64)], [7, 8], [.cells [(.int .i64), (.int .i64)], .cells [(.int .i64), (.int .i64)]]⟩])], loopTab [], natTab [], inTab [7, 9]⟩
theorem fine152 (N : Nat) : Fine (e152 N) N 152 Tryz.f152 ks152 rs152 (F152 N) :=
  ⟨Tryz.func152, by kernel_rfl, by kernel_rfl, by kernel_rfl, loops_of trivial, by kernel_rfl, by kernel_rfl, fun _ => by kernel_rfl⟩
theorem good152 (N : Nat) : Go.L.Good (e152 N) := good_of trivial
theorem gd152 (N : Nat) : CalOk Tryz.prog 152 (.full (mkFun ks152 rs152 (F152 N))) := mkFun_good (fine152 N) (good152 N)


end
end Go.Proofs.YtkhnngghmlpbeaaGreat
