/- The functions that the law reaches, as plain ones (printed by gen.py). -/
import Derived.Test.YtgipaccfnlklcaaGreatDoorV3
set_option linter.unusedVariables false
set_option maxRecDepth 100000
namespace Go.Proofs.YtgipaccfnlklcaaGreatDoor
noncomputable section
open Go.L

/-! ### 23: node.Node).lives -/
def F23 (N : Nat) : V × H → Option (Bool × H)
 | (a0, h) =>
 (isNil a0).bind fun b1 =>
 (if (!b1) = true then (
 (nck a0).bind fun _ =>
 ((rd h (padd a0 5) 0)).bind fun x4 =>
 (slen x4).bind fun n5 =>
 some ((decide (n5 > 0)), h))
 else (
 some (false, h))).bind fun (b2, h3) =>
 some (b2, h3)
abbrev ks23 : List SK := [.one .ref]
abbrev rs23 : List SK := [.one .bool]
def e23 (N : Nat) : Env := ⟨Tryz.prog, 13, inTab [], inTab [], natTab [], inTab [], calTab [], altTab [], loopTab [], natTab [], inTab []⟩
theorem fine23 (N : Nat) : Fine (e23 N) N 23 Tryz.f23 ks23 rs23 (F23 N) :=
  ⟨Tryz.func23, by kernel_rfl, by kernel_rfl, by kernel_rfl, loops_of trivial, by kernel_rfl, by kernel_rfl, fun _ => by kernel_rfl⟩
theorem good23 (N : Nat) : Go.L.Good (e23 N) := good_of trivial
theorem gd23 (N : Nat) : CalOk Tryz.prog 23 (.ro (mkFun ks23 rs23 (F23 N))) := mkFun_ro (fine23 N) (good23 N) (by kernel_rfl)

/-! ### 11: node.Node).Cores -/
def F11 (N : Nat) : V × H → Option (Int × H)
 | (a0, h) =>
 (F23 N (a0, h)).bind fun (x1, _) =>
 (if (!x1) = true then (
 some (0, h))
 else (
 (nck a0).bind fun _ =>
 ((rd h (padd a0 5) 0)).bind fun x2 =>
 (slen x2).bind fun n3 =>
 some (n3, h)))
abbrev ks11 : List SK := [.one .ref]
abbrev rs11 : List SK := [.one (.int .i64)]
def e11 (N : Nat) : Env := ⟨Tryz.prog, 11, inTab [], inTab [], natTab [], inTab [], calTab [(23, .ro (mkFun ks23 rs23 (F23 N)))], altTab [], loopTab [], natTab [], inTab []⟩
theorem fine11 (N : Nat) : Fine (e11 N) N 11 Tryz.f11 ks11 rs11 (F11 N) :=
  ⟨Tryz.func11, by kernel_rfl, by kernel_rfl, by kernel_rfl, loops_of trivial, by kernel_rfl, by kernel_rfl, fun _ => by kernel_rfl⟩
theorem good11 (N : Nat) : Go.L.Good (e11 N) := good_of ⟨gd23 N, trivial⟩
theorem gd11 (N : Nat) : CalOk Tryz.prog 11 (.ro (mkFun ks11 rs11 (F11 N))) := mkFun_ro (fine11 N) (good11 N) (by kernel_rfl)

/-! ### 4: info.Table -/
def F4 (N : Nat) : V × H → Option (ByteArray × Int × H)
 | (a0, h) =>
 (F11 N (a0, h)).bind fun (x1, _) =>
 (if (x1 == 0) = true then (
 some ((ByteArray.mk #[]), 1, h))
 else (
 none))
abbrev ks4 : List SK := [.one .ref]
abbrev rs4 : List SK := [.one .str, .one (.int .i64)]
def e4 (N : Nat) : Env := ⟨Tryz.prog, 32, inTab [6, 7], inTab [], natTab [(6, 6), (7, 7)], inTab [], calTab [(11, .ro (mkFun ks11 rs11 (F11 N)))], altTab [], loopTab [], natTab [], inTab [3, 4, 5, 6, 7, 8, 9, 10, 11, 12]⟩
theorem lv4_0 (N : Nat) : ∀ A, (e4 N).lp (lid (loopAt Tryz.f4 0)) = some A → LoopOk (e4 N) N (loopAt Tryz.f4 0) A := fun A h => by
 rw [show (e4 N).lp (lid (loopAt Tryz.f4 0)) = none by kernel_rfl] at h; cases h
theorem fine4 (N : Nat) : Fine (e4 N) N 4 Tryz.f4 ks4 rs4 (F4 N) :=
  ⟨Tryz.func4, by kernel_rfl, by kernel_rfl, by kernel_rfl, loops_of ⟨lv4_0 N, trivial⟩, by kernel_rfl, by kernel_rfl, fun _ => by kernel_rfl⟩
theorem good4 (N : Nat) : Go.L.Good (e4 N) := good_of ⟨gd11 N, trivial⟩
theorem gd4 (N : Nat) : CalOk Tryz.prog 4 (.ro (mkFun ks4 rs4 (F4 N))) := mkFun_ro (fine4 N) (good4 N) (by kernel_rfl)

/-! ### 25: node.Node).find -/
def F25 (N : Nat) : V × Int × Int × H → Option (V × H)
 | (a0, a1_0, a1_1, h) =>
 (nck a0).bind fun _ =>
 ((rd h (padd a0 6) 0)).bind fun x1 =>
 (hmap h x1).bind fun es2 =>
 (mlook (.int .i64 a1_0) es2).bind fun q3 =>
 ((some (Option.getD q3 .nilp))).bind fun x4 =>
 (if (Option.isSome q3) = true then (
 (nck x4).bind fun _ =>
 (L.asInt .i64 (rd h (padd x4 0) 0)).bind fun x7 =>
 (L.asInt .i64 (rd h (padd x4 0) 1)).bind fun x8 =>
 some (((x7 == a1_0) && ((x8 == a1_1) && true)), h))
 else (
 some (false, h))).bind fun (b5, h6) =>
 (if b5 = true then (
 some (x4, h6))
 else (
 none))
abbrev ks25 : List SK := [.one .ref, .agg [(.int .i64), (.int .i64)]]
abbrev rs25 : List SK := [.one .ref]
def e25 (N : Nat) : Env := ⟨Tryz.prog, 27, inTab [3], inTab [], natTab [(3, 3), (12, 3)], inTab [], calTab [], altTab [], loopTab [], natTab [], inTab [4]⟩
theorem fine25 (N : Nat) : Fine (e25 N) N 25 Tryz.f25 ks25 rs25 (F25 N) :=
  ⟨Tryz.func25, by kernel_rfl, by kernel_rfl, by kernel_rfl, loops_of trivial, by kernel_rfl, by kernel_rfl, fun _ => by kernel_rfl⟩
theorem good25 (N : Nat) : Go.L.Good (e25 N) := good_of trivial
theorem gd25 (N : Nat) : CalOk Tryz.prog 25 (.ro (mkFun ks25 rs25 (F25 N))) := mkFun_ro (fine25 N) (good25 N) (by kernel_rfl)

/-! ### 63: table.Table).given -/
def F63 (N : Nat) : V × H → Option (Bool × H)
 | (a0, h) =>
 (isNil a0).bind fun b1 =>
 (if (!b1) = true then (
 (nck a0).bind fun _ =>
 ((rd h (padd a0 0) 0)).bind fun x4 =>
 (slen x4).bind fun n5 =>
 some ((decide (n5 > 0)), h))
 else (
 some (false, h))).bind fun (b2, h3) =>
 some (b2, h3)
abbrev ks63 : List SK := [.one .ref]
abbrev rs63 : List SK := [.one .bool]
def e63 (N : Nat) : Env := ⟨Tryz.prog, 13, inTab [], inTab [], natTab [], inTab [], calTab [], altTab [], loopTab [], natTab [], inTab []⟩
theorem fine63 (N : Nat) : Fine (e63 N) N 63 Tryz.f63 ks63 rs63 (F63 N) :=
  ⟨Tryz.func63, by kernel_rfl, by kernel_rfl, by kernel_rfl, loops_of trivial, by kernel_rfl, by kernel_rfl, fun _ => by kernel_rfl⟩
theorem good63 (N : Nat) : Go.L.Good (e63 N) := good_of trivial
theorem gd63 (N : Nat) : CalOk Tryz.prog 63 (.ro (mkFun ks63 rs63 (F63 N))) := mkFun_ro (fine63 N) (good63 N) (by kernel_rfl)

/-! ### 114: table.Table).Is -/
def F114 (N : Nat) : V × Int × Int × H → Option (Bool × H)
 | (a0, a1_0, a1_1, h) =>
 (F63 N (a0, h)).bind fun (x1, _) =>
 (if x1 = true then (
 some ((decide (a1_0 ≥ 0)), h))
 else (
 some (false, h))).bind fun (b2, h3) =>
 (if b2 = true then (
 (nck a0).bind fun _ =>
 ((rd h3 (padd a0 0) 0)).bind fun x6 =>
 (slen x6).bind fun n7 =>
 some ((decide (a1_0 < n7)), h3))
 else (
 some (false, h3))).bind fun (b4, h5) =>
 (if b4 = true then (
 (nck a0).bind fun _ =>
 ((rd h5 (padd a0 0) 0)).bind fun x10 =>
 (sidx x10 a1_0 3).bind fun q11 =>
 (L.asBool (rd h5 (padd q11 1) 0)).bind fun x12 =>
 some (x12, h5))
 else (
 some (false, h5))).bind fun (b8, h9) =>
 (if b8 = true then (
 (nck a0).bind fun _ =>
 ((rd h9 (padd a0 0) 0)).bind fun x15 =>
 (sidx x15 a1_0 3).bind fun q16 =>
 (L.asInt .i64 (rd h9 (padd q16 0) 0)).bind fun x17 =>
 some ((x17 == a1_1), h9))
 else (
 some (false, h9))).bind fun (b13, h14) =>
 some (b13, h14)
abbrev ks114 : List SK := [.one .ref, .agg [(.int .i64), (.int .i64)]]
abbrev rs114 : List SK := [.one .bool]
def e114 (N : Nat) : Env := ⟨Tryz.prog, 47, inTab [3], inTab [], natTab [(3, 3), (8, 3), (13, 3), (27, 3), (38, 3), (43, 3)], inTab [], calTab [(63, .ro (mkFun ks63 rs63 (F63 N)))], altTab [], loopTab [], natTab [], inTab []⟩
theorem fine114 (N : Nat) : Fine (e114 N) N 114 Tryz.f114 ks114 rs114 (F114 N) :=
  ⟨Tryz.func114, by kernel_rfl, by kernel_rfl, by kernel_rfl, loops_of trivial, by kernel_rfl, by kernel_rfl, fun _ => by kernel_rfl⟩
theorem good114 (N : Nat) : Go.L.Good (e114 N) := good_of ⟨gd63 N, trivial⟩
theorem gd114 (N : Nat) : CalOk Tryz.prog 114 (.ro (mkFun ks114 rs114 (F114 N))) := mkFun_ro (fine114 N) (good114 N) (by kernel_rfl)

/-! ### 65: table.Table).NameOf -/
def F65 (N : Nat) : V × Int × Int × H → Option (ByteArray × H)
 | (a0, a1_0, a1_1, h) =>
 (F114 N (a0, a1_0, a1_1, h)).bind fun (x1, _) =>
 (if (!x1) = true then (
 none)
 else (
 (nck a0).bind fun _ =>
 ((rd h (padd a0 0) 0)).bind fun x2 =>
 (sidx x2 a1_0 3).bind fun q3 =>
 (L.asStr (rd h (padd q3 2) 0)).bind fun x4 =>
 some (x4, h)))
abbrev ks65 : List SK := [.one .ref, .agg [(.int .i64), (.int .i64)]]
abbrev rs65 : List SK := [.one .str]
def e65 (N : Nat) : Env := ⟨Tryz.prog, 18, inTab [3], inTab [], natTab [(3, 3), (13, 3)], inTab [], calTab [(114, .ro (mkFun ks114 rs114 (F114 N)))], altTab [], loopTab [], natTab [], inTab [2]⟩
theorem fine65 (N : Nat) : Fine (e65 N) N 65 Tryz.f65 ks65 rs65 (F65 N) :=
  ⟨Tryz.func65, by kernel_rfl, by kernel_rfl, by kernel_rfl, loops_of trivial, by kernel_rfl, by kernel_rfl, fun _ => by kernel_rfl⟩
theorem good65 (N : Nat) : Go.L.Good (e65 N) := good_of ⟨gd114 N, trivial⟩
theorem gd65 (N : Nat) : CalOk Tryz.prog 65 (.ro (mkFun ks65 rs65 (F65 N))) := mkFun_ro (fine65 N) (good65 N) (by kernel_rfl)

/-! ### 72: box.Box).given -/
def F72 (N : Nat) : V × H → Option (Bool × H)
 | (a0, h) =>
 (isNil a0).bind fun b1 =>
 (if (!b1) = true then (
 (nck a0).bind fun _ =>
 (L.asBool (rd h (padd a0 0) 0)).bind fun x4 =>
 some (x4, h))
 else (
 some (false, h))).bind fun (b2, h3) =>
 some (b2, h3)
abbrev ks72 : List SK := [.one .ref]
abbrev rs72 : List SK := [.one .bool]
def e72 (N : Nat) : Env := ⟨Tryz.prog, 11, inTab [], inTab [], natTab [], inTab [], calTab [], altTab [], loopTab [], natTab [], inTab []⟩
theorem fine72 (N : Nat) : Fine (e72 N) N 72 Tryz.f72 ks72 rs72 (F72 N) :=
  ⟨Tryz.func72, by kernel_rfl, by kernel_rfl, by kernel_rfl, loops_of trivial, by kernel_rfl, by kernel_rfl, fun _ => by kernel_rfl⟩
theorem good72 (N : Nat) : Go.L.Good (e72 N) := good_of trivial
theorem gd72 (N : Nat) : CalOk Tryz.prog 72 (.ro (mkFun ks72 rs72 (F72 N))) := mkFun_ro (fine72 N) (good72 N) (by kernel_rfl)

/-! ### 73: box.lane -/
def F73 (N : Nat) : Int × H → Option (Bool × H)
 | (a0, h) =>
 (if (decide (a0 ≥ 0)) = true then (
 some ((decide (a0 < 2)), h))
 else (
 some (false, h))).bind fun (b1, h2) =>
 some (b1, h2)
abbrev ks73 : List SK := [.one (.int .i64)]
abbrev rs73 : List SK := [.one .bool]
def e73 (N : Nat) : Env := ⟨Tryz.prog, 9, inTab [], inTab [], natTab [], inTab [], calTab [], altTab [], loopTab [], natTab [], inTab []⟩
theorem fine73 (N : Nat) : Fine (e73 N) N 73 Tryz.f73 ks73 rs73 (F73 N) :=
  ⟨Tryz.func73, by kernel_rfl, by kernel_rfl, by kernel_rfl, loops_of trivial, by kernel_rfl, by kernel_rfl, fun _ => by kernel_rfl⟩
theorem good73 (N : Nat) : Go.L.Good (e73 N) := good_of trivial
theorem gd73 : CalOk Tryz.prog 73 (.pure (mkP ks73 rs73 (F73 100))) := mkP_good (fine73 100) (good73 100) (by kernel_rfl) (by kernel_rfl)

/-! ### 35: box.Box).Lane -/
def F35 (N : Nat) : V × Int × H → Option (V × H)
 | (a0, a1, h) =>
 (F72 N (a0, h)).bind fun (x1, _) =>
 (if (!x1) = true then (
 some (true, h))
 else (
 (F73 100 (a1, [])).bind fun (x4, _) =>
 some ((!x4), h))).bind fun (b2, h3) =>
 (if b2 = true then (
 none)
 else (
 (nck a0).bind fun _ =>
 (aidx (padd a0 1) a1 2 1).bind fun q5 =>
 ((rd h3 q5 0)).bind fun x6 =>
 (scells h3 x6 7).bind fun cs9 =>
 (happ h3 .nils 7 (snlen x6) cs9).bind fun (v7, h8) =>
 some (v7, h8)))
abbrev ks35 : List SK := [.one .ref, .one (.int .i64)]
abbrev rs35 : List SK := [.one .ref]
def e35 (N : Nat) : Env := ⟨Tryz.prog, 20, inTab [], inTab [], natTab [], inTab [], calTab [(72, .ro (mkFun ks72 rs72 (F72 N))), (73, .pure (mkP ks73 rs73 (F73 100)))], altTab [], loopTab [], natTab [], inTab [2]⟩
theorem fine35 (N : Nat) : Fine (e35 N) N 35 Tryz.f35 ks35 rs35 (F35 N) :=
  ⟨Tryz.func35, by kernel_rfl, by kernel_rfl, by kernel_rfl, loops_of trivial, by kernel_rfl, by kernel_rfl, fun _ => by kernel_rfl⟩
theorem good35 (N : Nat) : Go.L.Good (e35 N) := good_of ⟨gd72 N, ⟨gd73, trivial⟩⟩
theorem gdg35 (N : Nat) : CalOk Tryz.prog 35 (.gro (mkFun ks35 rs35 (F35 N))) := mkFun_groC (fine35 N) (good35 N) (by kernel_rfl)

/-! ### 66: box.Box).Len -/
def F66 (N : Nat) : V × Int × H → Option (Int × H)
 | (a0, a1, h) =>
 (F35 N (a0, a1, h)).bind fun (x1, h2) =>
 (slen x1).bind fun n3 =>
 some (n3, h2)
abbrev ks66 : List SK := [.one .ref, .one (.int .i64)]
abbrev rs66 : List SK := [.one (.int .i64)]
def e66 (N : Nat) : Env := ⟨Tryz.prog, 9, inTab [], inTab [], natTab [], inTab [], calTab [(35, .gro (mkFun ks35 rs35 (F35 N)))], altTab [], loopTab [], natTab [], inTab []⟩
theorem fine66 (N : Nat) : Fine (e66 N) N 66 Tryz.f66 ks66 rs66 (F66 N) :=
  ⟨Tryz.func66, by kernel_rfl, by kernel_rfl, by kernel_rfl, loops_of trivial, by kernel_rfl, by kernel_rfl, fun _ => by kernel_rfl⟩
theorem good66 (N : Nat) : Go.L.Good (e66 N) := good_of ⟨gdg35 N, trivial⟩
theorem gdg66 (N : Nat) : CalOk Tryz.prog 66 (.gro (mkFun ks66 rs66 (F66 N))) := mkFun_groC (fine66 N) (good66 N) (by kernel_rfl)

/-! ### 115: frame.Stack).lives -/
def F115 (N : Nat) : V × H → Option (Bool × H)
 | (a0, h) =>
 (isNil a0).bind fun b1 =>
 (if (!b1) = true then (
 (nck a0).bind fun _ =>
 (L.asBool (rd h (padd a0 0) 0)).bind fun x4 =>
 some (x4, h))
 else (
 some (false, h))).bind fun (b2, h3) =>
 some (b2, h3)
abbrev ks115 : List SK := [.one .ref]
abbrev rs115 : List SK := [.one .bool]
def e115 (N : Nat) : Env := ⟨Tryz.prog, 11, inTab [], inTab [], natTab [], inTab [], calTab [], altTab [], loopTab [], natTab [], inTab []⟩
theorem fine115 (N : Nat) : Fine (e115 N) N 115 Tryz.f115 ks115 rs115 (F115 N) :=
  ⟨Tryz.func115, by kernel_rfl, by kernel_rfl, by kernel_rfl, loops_of trivial, by kernel_rfl, by kernel_rfl, fun _ => by kernel_rfl⟩
theorem good115 (N : Nat) : Go.L.Good (e115 N) := good_of trivial
theorem gd115 (N : Nat) : CalOk Tryz.prog 115 (.ro (mkFun ks115 rs115 (F115 N))) := mkFun_ro (fine115 N) (good115 N) (by kernel_rfl)

/-! ### 62: api.Term] -/
def F62 (N : Nat) : V × H → Option (V × H)
 | (a0, h) =>
 (isNilS a0).bind fun b1 =>
 (if b1 = true then (
 some (.nils, h))
 else (
 none))
abbrev ks62 : List SK := [.one .ref]
abbrev rs62 : List SK := [.one .ref]
def e62 (N : Nat) : Env := ⟨Tryz.prog, 8, inTab [], inTab [], natTab [], inTab [], calTab [], altTab [], loopTab [], natTab [], inTab [3]⟩
theorem fine62 (N : Nat) : Fine (e62 N) N 62 Tryz.f62 ks62 rs62 (F62 N) :=
  ⟨Tryz.func62, by kernel_rfl, by kernel_rfl, by kernel_rfl, loops_of trivial, by kernel_rfl, by kernel_rfl, fun _ => by kernel_rfl⟩
theorem good62 (N : Nat) : Go.L.Good (e62 N) := good_of trivial
theorem gd62 (N : Nat) : CalOk Tryz.prog 62 (.ro (mkFun ks62 rs62 (F62 N))) := mkFun_ro (fine62 N) (good62 N) (by kernel_rfl)

/-! ### 67: frame.Stack).View -/
def L67_0 (N : Nat) : Nat → V × V × Int × Int × V × V × V × V × H → Option (V × V × V × V × V × H)
 | 0, _ => none
 | n + 1, (x21, x22, x23, x24, x25, x26, x27, x28, h29) =>
 (if (decide (x24 < x23)) = true then (
 (sidx x22 x24 4).bind fun q30 =>
 (L.asInt .i64 (rd h29 q30 0)).bind fun x31 =>
 (L.asInt .i64 (rd h29 q30 1)).bind fun x32 =>
 ((rd h29 q30 2)).bind fun x33 =>
 (L.asInt .i64 (rd h29 q30 3)).bind fun x34 =>
 (F62 N (x33, h29)).bind fun (x35, _) =>
 (ck1 x35).bind fun _ =>
 (happ h29 x27 4 1 [(.int .i64 x31), (.int .i64 x32), x35, (.int .i64 x34)]).bind fun (v36, h37) =>
 (ck1 v36).bind fun _ =>
 L67_0 N n (x21, x22, x23, (IntKind.i64.wrap (x24 + 1)), x25, x26, v36, x28, h37))
 else (
 some (x21, x25, x26, x27, x28, h29)))
def F67 (N : Nat) : V × H → Option (V × V × H)
 | (a0, h) =>
 (F115 N (a0, h)).bind fun (x1, _) =>
 (if (!x1) = true then (
 none)
 else (
 (nck a0).bind fun _ =>
 ((rd h (padd a0 1) 0)).bind fun x2 =>
 (slen x2).bind fun n3 =>
 (L67_0 N N (a0, x2, n3, 0, .nils, .nils, .nils, .nils, h)).bind fun (x38, x39, x40, x41, x42, h43) =>
 (nck x38).bind fun _ =>
 ((rd h43 (padd x38 2) 0)).bind fun x44 =>
 (F62 N (x44, h43)).bind fun (x45, _) =>
 (ck1 x45).bind fun _ =>
 some (x41, x45, h43)))
abbrev ks67 : List SK := [.one .ref]
abbrev rs67 : List SK := [.agg [.ref, .ref]]
def e67 (N : Nat) : Env := ⟨Tryz.prog, 44, inTab [2, 3, 5, 33], inTab [], natTab [(2, 2), (3, 3), (5, 5), (19, 3), (21, 5), (22, 5), (24, 5), (25, 5), (27, 5), (30, 5), (35, 3), (42, 3)], inTab [], calTab [(115, .ro (mkFun ks115 rs115 (F115 N))), (62, .ro (mkFun ks62 rs62 (F62 N)))], altTab [], loopTab [(5, ⟨⟨.normal, [0, 2, 3, 13, 14, 15], [.one .ref, .lp 2 0, .lp 3 0, .one .ref, .one (.int .i64), .one (.int .i64)], [2, 3], [.cells [.ref, .ref], .cells [.ref, .ref]]⟩, [⟨(.exit 0), [0, 2, 3], [.one .ref, .lp 2 0, .lp 3 0], [2, 3], [.cells [.ref, .ref], .cells [.ref, .ref]]⟩], L67_0 N⟩)], natTab [], inTab [3]⟩
theorem l67_0 (N : Nat) : ∀ A, (e67 N).lp (lid (loopAt Tryz.f67 0)) = some A → LoopOk (e67 N) N (loopAt Tryz.f67 0) A :=
  loopOk_of (A := ⟨⟨.normal, [0, 2, 3, 13, 14, 15], [.one .ref, .lp 2 0, .lp 3 0, .one .ref, .one (.int .i64), .one (.int .i64)], [2, 3], [.cells [.ref, .ref], .cells [.ref, .ref]]⟩, [⟨(.exit 0), [0, 2, 3], [.one .ref, .lp 2 0, .lp 3 0], [2, 3], [.cells [.ref, .ref], .cells [.ref, .ref]]⟩], L67_0 N⟩) (by kernel_rfl) (fun _ => rfl) (fun _ _ => by kernel_rfl)
theorem fine67 (N : Nat) : Fine (e67 N) N 67 Tryz.f67 ks67 rs67 (F67 N) :=
  ⟨Tryz.func67, by kernel_rfl, by kernel_rfl, by kernel_rfl, loops_of ⟨l67_0 N, trivial⟩, by kernel_rfl, by kernel_rfl, fun _ => by kernel_rfl⟩
theorem good67 (N : Nat) : Go.L.Good (e67 N) := good_of ⟨gd115 N, ⟨gd62 N, trivial⟩⟩
theorem gd67 (N : Nat) : CalOk Tryz.prog 67 (.full (mkFun ks67 rs67 (F67 N))) := mkFun_good (fine67 N) (good67 N)
theorem gl67 (N : Nat) : CalOk Tryz.prog 67 (.gro (mkFun ks67 rs67 (locF true ks67 rs67 (F67 N)))) := loc_gro (gd67 N)

/-! ### 26: node.Node).told -/
def F26 (N : Nat) : V × V × H → Option (Int × Int × ByteArray × Int × Int × Int × Int × Bool × Bool × Int × Int × Int × V × V × H)
 | (a0, a1, h) =>
 (nck a1).bind fun _ =>
 (L.asInt .i64 (rd h (padd a1 0) 0)).bind fun x1 =>
 (L.asInt .i64 (rd h (padd a1 0) 1)).bind fun x2 =>
 (nck a0).bind fun _ =>
 ((rd h (padd a0 2) 0)).bind fun x3 =>
 (nck a1).bind fun _ =>
 (L.asInt .i64 (rd h (padd a1 0) 0)).bind fun x4 =>
 (L.asInt .i64 (rd h (padd a1 0) 1)).bind fun x5 =>
 (F65 N (x3, x4, x5, h)).bind fun (x6, _) =>
 (nck a1).bind fun _ =>
 (L.asInt .i64 (rd h (padd a1 7) 0)).bind fun x7 =>
 (nck a1).bind fun _ =>
 (L.asInt .i64 (rd h (padd a1 3) 0)).bind fun x8 =>
 (nck a1).bind fun _ =>
 (L.asInt .i64 (rd h (padd a1 2) 0)).bind fun x9 =>
 (nck a1).bind fun _ =>
 (L.asInt .i64 (rd h (padd a1 4) 0)).bind fun x10 =>
 (nck a1).bind fun _ =>
 (L.asBool (rd h (padd a1 8) 0)).bind fun x11 =>
 (nck a1).bind fun _ =>
 (L.asBool (rd h (padd a1 9) 0)).bind fun x12 =>
 (nck a1).bind fun _ =>
 (L.asInt .i64 (rd h (padd a1 10) 0)).bind fun x13 =>
 (nck a1).bind fun _ =>
 ((rd h (padd a1 6) 0)).bind fun x14 =>
 (nck a1).bind fun _ =>
 ((rd h (padd a1 6) 0)).bind fun x15 =>
 (nck a1).bind fun _ =>
 ((rd h (padd a1 5) 0)).bind fun x16 =>
 (F66 N (x14, 0, h)).bind fun (x17, h18) =>
 (F66 N (x15, 1, h18)).bind fun (x19, h20) =>
 Option.bind (α := (V × V × H)) (locF true ks67 rs67 (F67 N) ((x16, h20) : V × H)) fun (x21, x22, h23) =>
 some (x1, x2, x6, x7, x8, x9, x10, x11, x12, x13, x17, x19, x21, x22, h23)
abbrev ks26 : List SK := [.one .ref, .one .ref]
abbrev rs26 : List SK := [.agg [(.int .i64), (.int .i64), .str, (.int .i64), (.int .i64), (.int .i64), (.int .i64), .bool, .bool, (.int .i64), (.int .i64), (.int .i64), .ref, .ref]]
def e26 (N : Nat) : Env := ⟨Tryz.prog, 62, inTab [4], inTab [], natTab [(4, 4)], inTab [], calTab [(65, .ro (mkFun ks65 rs65 (F65 N))), (66, .gro (mkFun ks66 rs66 (F66 N))), (67, .gro (mkFun ks67 rs67 (locF true ks67 rs67 (F67 N))))], altTab [], loopTab [], natTab [], inTab []⟩
theorem fine26 (N : Nat) : Fine (e26 N) N 26 Tryz.f26 ks26 rs26 (F26 N) :=
  ⟨Tryz.func26, by kernel_rfl, by kernel_rfl, by kernel_rfl, loops_of trivial, by kernel_rfl, by kernel_rfl, fun _ => by kernel_rfl⟩
theorem good26 (N : Nat) : Go.L.Good (e26 N) := good_of ⟨gd65 N, ⟨gdg66 N, ⟨gl67 N, trivial⟩⟩⟩
theorem gdg26 (N : Nat) : CalOk Tryz.prog 26 (.gro (mkFun ks26 rs26 (F26 N))) := mkFun_groC (fine26 N) (good26 N) (by kernel_rfl)

/-! ### 13: node.Node).Actor -/
def F13 (N : Nat) : V × Int × Int × H → Option (Int × Int × ByteArray × Int × Int × Int × Int × Bool × Bool × Int × Int × Int × V × V × Int × H)
 | (a0, a1_0, a1_1, h) =>
 (F23 N (a0, h)).bind fun (x1, _) =>
 (if (!x1) = true then (
 none)
 else (
 (F25 N (a0, a1_0, a1_1, h)).bind fun (x2, _) =>
 (isNil x2).bind fun b3 =>
 (if b3 = true then (
 none)
 else (
 (F26 N (a0, x2, h)).bind fun (x4, x5, x6, x7, x8, x9, x10, x11, x12, x13, x14, x15, x16, x17, h18) =>
 some (x4, x5, x6, x7, x8, x9, x10, x11, x12, x13, x14, x15, x16, x17, 0, h18)))))
abbrev ks13 : List SK := [.one .ref, .agg [(.int .i64), (.int .i64)]]
abbrev rs13 : List SK := [.agg [(.int .i64), (.int .i64), .str, (.int .i64), (.int .i64), (.int .i64), (.int .i64), .bool, .bool, (.int .i64), (.int .i64), (.int .i64), .ref, .ref], .one (.int .i64)]
def e13 (N : Nat) : Env := ⟨Tryz.prog, 20, inTab [3, 4], inTab [], natTab [(3, 3), (4, 4)], inTab [], calTab [(23, .ro (mkFun ks23 rs23 (F23 N))), (25, .ro (mkFun ks25 rs25 (F25 N))), (26, .gro (mkFun ks26 rs26 (F26 N)))], altTab [], loopTab [], natTab [], inTab [2, 5]⟩
theorem fine13 (N : Nat) : Fine (e13 N) N 13 Tryz.f13 ks13 rs13 (F13 N) :=
  ⟨Tryz.func13, by kernel_rfl, by kernel_rfl, by kernel_rfl, loops_of trivial, by kernel_rfl, by kernel_rfl, fun _ => by kernel_rfl⟩
theorem good13 (N : Nat) : Go.L.Good (e13 N) := good_of ⟨gd23 N, ⟨gd25 N, ⟨gdg26 N, trivial⟩⟩⟩
theorem gdg13 (N : Nat) : CalOk Tryz.prog 13 (.gro (mkFun ks13 rs13 (F13 N))) := mkFun_groC (fine13 N) (good13 N) (by kernel_rfl)

/-! ### 148: strconv.small -/
def F148 (N : Nat) : Int × H → Option (ByteArray × H)
 | (a0, h) =>
 (if (decide (a0 < 10)) = true then (
 (if 0 ≤ a0 then (if a0 ≤ (IntKind.i64.wrap (a0 + 1)) then (if (IntKind.i64.wrap (a0 + 1)) ≤ (((ByteArray.mk #[48, 49, 50, 51, 52, 53, 54, 55, 56, 57, 97, 98, 99, 100, 101, 102, 103, 104, 105, 106, 107, 108, 109, 110, 111, 112, 113, 114, 115, 116, 117, 118, 119, 120, 121, 122])).size : Int) then (
 some ((ByteArray.extract (ByteArray.mk #[48, 49, 50, 51, 52, 53, 54, 55, 56, 57, 97, 98, 99, 100, 101, 102, 103, 104, 105, 106, 107, 108, 109, 110, 111, 112, 113, 114, 115, 116, 117, 118, 119, 120, 121, 122]) (Int.toNat a0) (Int.toNat (IntKind.i64.wrap (a0 + 1)))), h)) else none) else none) else none))
 else (
 none))
abbrev ks148 : List SK := [.one (.int .i64)]
abbrev rs148 : List SK := [.one .str]
def e148 (N : Nat) : Env := ⟨Tryz.prog, 15, inTab [], inTab [], natTab [], inTab [], calTab [], altTab [], loopTab [], natTab [], inTab [3]⟩
theorem fine148 (N : Nat) : Fine (e148 N) N 148 Tryz.f148 ks148 rs148 (F148 N) :=
  ⟨Tryz.func148, by kernel_rfl, by kernel_rfl, by kernel_rfl, loops_of trivial, by kernel_rfl, by kernel_rfl, fun _ => by kernel_rfl⟩
theorem good148 (N : Nat) : Go.L.Good (e148 N) := good_of trivial
theorem gd148 : CalOk Tryz.prog 148 (.pure (mkP ks148 rs148 (F148 100))) := mkP_good (fine148 100) (good148 100) (by kernel_rfl) (by kernel_rfl)

/-! ### 119: strconv.FormatInt -/
def F119 (N : Nat) : Int × Int × H → Option (ByteArray × H)
 | (a0, a1, h) =>
 (if (a1 == 10) = true then (
 (if (decide (0 ≤ a0)) = true then (
 some ((decide (a0 < 100)), h))
 else (
 some (false, h))).bind fun (b1, h2) =>
 (if b1 = true then (
 (F148 100 (a0, [])).bind fun (x3, _) =>
 some (x3, h2))
 else (
 none)))
 else (
 none))
abbrev ks119 : List SK := [.one (.int .i64), .one (.int .i64)]
abbrev rs119 : List SK := [.one .str]
def e119 (N : Nat) : Env := ⟨Tryz.prog, 54, inTab [], inTab [], natTab [], inTab [], calTab [(148, .pure (mkP ks148 rs148 (F148 100)))], altTab [], loopTab [], natTab [], inTab [4, 5, 6, 7, 8, 9, 10, 11, 12, 13, 14, 15]⟩
theorem fine119 (N : Nat) : Fine (e119 N) N 119 Tryz.f119 ks119 rs119 (F119 N) :=
  ⟨Tryz.func119, by kernel_rfl, by kernel_rfl, by kernel_rfl, loops_of trivial, by kernel_rfl, by kernel_rfl, fun _ => by kernel_rfl⟩
theorem good119 (N : Nat) : Go.L.Good (e119 N) := good_of ⟨gd148, trivial⟩
theorem gd119 : CalOk Tryz.prog 119 (.pure (mkP ks119 rs119 (F119 100))) := mkP_good (fine119 100) (good119 100) (by kernel_rfl) (by kernel_rfl)

/-! ### 71: strconv.Itoa -/
def F71 (N : Nat) : Int × H → Option (ByteArray × H)
 | (a0, h) =>
 (F119 100 (a0, 10, [])).bind fun (x1, _) =>
 some (x1, h)
abbrev ks71 : List SK := [.one (.int .i64)]
abbrev rs71 : List SK := [.one .str]
def e71 (N : Nat) : Env := ⟨Tryz.prog, 5, inTab [], inTab [], natTab [], inTab [], calTab [(119, .pure (mkP ks119 rs119 (F119 100)))], altTab [], loopTab [], natTab [], inTab []⟩
theorem fine71 (N : Nat) : Fine (e71 N) N 71 Tryz.f71 ks71 rs71 (F71 N) :=
  ⟨Tryz.func71, by kernel_rfl, by kernel_rfl, by kernel_rfl, loops_of trivial, by kernel_rfl, by kernel_rfl, fun _ => by kernel_rfl⟩
theorem good71 (N : Nat) : Go.L.Good (e71 N) := good_of ⟨gd119, trivial⟩
theorem gd71 : CalOk Tryz.prog 71 (.pure (mkP ks71 rs71 (F71 100))) := mkP_good (fine71 100) (good71 100) (by kernel_rfl) (by kernel_rfl)

/-! ### 30: strconv.Itoa -/
def F30 (N : Nat) : Int × H → Option (ByteArray × H)
 | (a0, h) =>
 (F71 100 (a0, [])).bind fun (x1, _) =>
 some (x1, h)
abbrev ks30 : List SK := [.one (.int .i64)]
abbrev rs30 : List SK := [.one .str]
def e30 (N : Nat) : Env := ⟨Tryz.prog, 5, inTab [], inTab [], natTab [], inTab [], calTab [(71, .pure (mkP ks71 rs71 (F71 100)))], altTab [], loopTab [], natTab [], inTab []⟩
theorem fine30 (N : Nat) : Fine (e30 N) N 30 Tryz.f30 ks30 rs30 (F30 N) :=
  ⟨Tryz.func30, by kernel_rfl, by kernel_rfl, by kernel_rfl, loops_of trivial, by kernel_rfl, by kernel_rfl, fun _ => by kernel_rfl⟩
theorem good30 (N : Nat) : Go.L.Good (e30 N) := good_of ⟨gd71, trivial⟩
theorem gd30 : CalOk Tryz.prog 30 (.pure (mkP ks30 rs30 (F30 100))) := mkP_good (fine30 100) (good30 100) (by kernel_rfl) (by kernel_rfl)

/-! ### 29: info.word -/
def F29 (N : Nat) : Int × V × H → Option (ByteArray × H)
 | (a0, a1, h) =>
 (sidx a1 a0 1).bind fun q1 =>
 (L.asStr (rd h q1 0)).bind fun x2 =>
 some (x2, h)
abbrev ks29 : List SK := [.one (.int .i64), .one .ref]
abbrev rs29 : List SK := [.one .str]
def e29 (N : Nat) : Env := ⟨Tryz.prog, 9, inTab [], inTab [], natTab [], inTab [], calTab [], altTab [], loopTab [], natTab [], inTab []⟩
theorem fine29 (N : Nat) : Fine (e29 N) N 29 Tryz.f29 ks29 rs29 (F29 N) :=
  ⟨Tryz.func29, by kernel_rfl, by kernel_rfl, by kernel_rfl, loops_of trivial, by kernel_rfl, by kernel_rfl, fun _ => by kernel_rfl⟩
theorem good29 (N : Nat) : Go.L.Good (e29 N) := good_of trivial
theorem gd29 (N : Nat) : CalOk Tryz.prog 29 (.ro (mkFun ks29 rs29 (F29 N))) := mkFun_ro (fine29 N) (good29 N) (by kernel_rfl)

/-! ### 15: info.line -/
def F15 (N : Nat) : Int × Int × ByteArray × Int × Int × Int × Int × Bool × Bool × Int × Int × Int × V × V × H → Option (ByteArray × H)
 | (a0_0, a0_1, a0_2, a0_3, a0_4, a0_5, a0_6, a0_7, a0_8, a0_9, a0_10, a0_11, a0_12, a0_13, h) =>
 (F28x (6, 0, (0, 0), (ByteArray.mk #[]), a0_0, a0_1, .nils, [])).bind fun (x1, x2, _) =>
 ((if ((a0_2).toList == ((ByteArray.mk #[])).toList) = true then (
 some (x1, (ByteArray.mk #[45]), a0_0, a0_1, a0_2, a0_3, a0_4, a0_5, a0_6, a0_7, a0_8, a0_9, a0_10, a0_11, a0_12, a0_13, h))
 else (
 some (x1, a0_2, a0_0, a0_1, a0_2, a0_3, a0_4, a0_5, a0_6, a0_7, a0_8, a0_9, a0_10, a0_11, a0_12, a0_13, h))) : Option (ByteArray × ByteArray × Int × Int × ByteArray × Int × Int × Int × Int × Bool × Bool × Int × Int × Int × V × V × H)).bind fun (x3, x4, x5, x6, x7, x8, x9, x10, x11, x12, x13, x14, x15, x16, x17, x18, h19) =>
 (if (x3).size + ((ByteArray.mk #[32])).size ≤ mostBytes then (
 (if ((x3 ++ (ByteArray.mk #[32]))).size + (x4).size ≤ mostBytes then (
 (if (((x3 ++ (ByteArray.mk #[32])) ++ x4)).size + ((ByteArray.mk #[32])).size ≤ mostBytes then (
 (F29 N ((IntKind.i64.wrap (x8 - 1)), (.rs 1 [(.str (ByteArray.mk #[114, 101, 97, 100, 121])), (.str (ByteArray.mk #[119, 97, 105, 116, 105, 110, 103])), (.str (ByteArray.mk #[115, 117, 115, 112, 101, 110, 100, 101, 100]))]), h19)).bind fun (x20, _) =>
 (if ((((x3 ++ (ByteArray.mk #[32])) ++ x4) ++ (ByteArray.mk #[32]))).size + (x20).size ≤ mostBytes then (
 (if (((((x3 ++ (ByteArray.mk #[32])) ++ x4) ++ (ByteArray.mk #[32])) ++ x20)).size + ((ByteArray.mk #[32])).size ≤ mostBytes then (
 (F29 N (x10, (.rs 1 [(.str (ByteArray.mk #[104, 105, 103, 104])), (.str (ByteArray.mk #[110, 111, 114, 109, 97, 108])), (.str (ByteArray.mk #[108, 111, 119]))]), h19)).bind fun (x21, _) =>
 (if ((((((x3 ++ (ByteArray.mk #[32])) ++ x4) ++ (ByteArray.mk #[32])) ++ x20) ++ (ByteArray.mk #[32]))).size + (x21).size ≤ mostBytes then (
 (F30 100 (x9, [])).bind fun (x22, _) =>
 (if ((ByteArray.mk #[32, 99, 111, 114, 101, 61])).size + (x22).size ≤ mostBytes then (
 (if (((ByteArray.mk #[32, 99, 111, 114, 101, 61]) ++ x22)).size + ((ByteArray.mk #[32, 109, 111, 100, 117, 108, 101, 61])).size ≤ mostBytes then (
 (F30 100 (x11, [])).bind fun (x23, _) =>
 (if ((((ByteArray.mk #[32, 99, 111, 114, 101, 61]) ++ x22) ++ (ByteArray.mk #[32, 109, 111, 100, 117, 108, 101, 61]))).size + (x23).size ≤ mostBytes then (
 (if (((((ByteArray.mk #[32, 99, 111, 114, 101, 61]) ++ x22) ++ (ByteArray.mk #[32, 109, 111, 100, 117, 108, 101, 61])) ++ x23)).size + ((ByteArray.mk #[32, 114, 101, 100, 115, 61])).size ≤ mostBytes then (
 (F30 100 (x14, [])).bind fun (x24, _) =>
 (if ((((((ByteArray.mk #[32, 99, 111, 114, 101, 61]) ++ x22) ++ (ByteArray.mk #[32, 109, 111, 100, 117, 108, 101, 61])) ++ x23) ++ (ByteArray.mk #[32, 114, 101, 100, 115, 61]))).size + (x24).size ≤ mostBytes then (
 (if (((((((ByteArray.mk #[32, 99, 111, 114, 101, 61]) ++ x22) ++ (ByteArray.mk #[32, 109, 111, 100, 117, 108, 101, 61])) ++ x23) ++ (ByteArray.mk #[32, 114, 101, 100, 115, 61])) ++ x24)).size + ((ByteArray.mk #[32, 109, 97, 105, 108, 61])).size ≤ mostBytes then (
 (F30 100 ((IntKind.i64.wrap (x15 + x16)), [])).bind fun (x25, _) =>
 (if ((((((((ByteArray.mk #[32, 99, 111, 114, 101, 61]) ++ x22) ++ (ByteArray.mk #[32, 109, 111, 100, 117, 108, 101, 61])) ++ x23) ++ (ByteArray.mk #[32, 114, 101, 100, 115, 61])) ++ x24) ++ (ByteArray.mk #[32, 109, 97, 105, 108, 61]))).size + (x25).size ≤ mostBytes then (
 (if (((((((((ByteArray.mk #[32, 99, 111, 114, 101, 61]) ++ x22) ++ (ByteArray.mk #[32, 109, 111, 100, 117, 108, 101, 61])) ++ x23) ++ (ByteArray.mk #[32, 114, 101, 100, 115, 61])) ++ x24) ++ (ByteArray.mk #[32, 109, 97, 105, 108, 61])) ++ x25)).size + ((ByteArray.mk #[32, 100, 101, 112, 116, 104, 61])).size ≤ mostBytes then (
 (slen x17).bind fun n26 =>
 (F30 100 (n26, [])).bind fun (x27, _) =>
 (if ((((((((((ByteArray.mk #[32, 99, 111, 114, 101, 61]) ++ x22) ++ (ByteArray.mk #[32, 109, 111, 100, 117, 108, 101, 61])) ++ x23) ++ (ByteArray.mk #[32, 114, 101, 100, 115, 61])) ++ x24) ++ (ByteArray.mk #[32, 109, 97, 105, 108, 61])) ++ x25) ++ (ByteArray.mk #[32, 100, 101, 112, 116, 104, 61]))).size + (x27).size ≤ mostBytes then (
 (if (((((((x3 ++ (ByteArray.mk #[32])) ++ x4) ++ (ByteArray.mk #[32])) ++ x20) ++ (ByteArray.mk #[32])) ++ x21)).size + (((((((((((ByteArray.mk #[32, 99, 111, 114, 101, 61]) ++ x22) ++ (ByteArray.mk #[32, 109, 111, 100, 117, 108, 101, 61])) ++ x23) ++ (ByteArray.mk #[32, 114, 101, 100, 115, 61])) ++ x24) ++ (ByteArray.mk #[32, 109, 97, 105, 108, 61])) ++ x25) ++ (ByteArray.mk #[32, 100, 101, 112, 116, 104, 61])) ++ x27)).size ≤ mostBytes then (
 (if x12 = true then (
 none)
 else (
 (if x13 = true then (
 none)
 else (
 (if ((((((((x3 ++ (ByteArray.mk #[32])) ++ x4) ++ (ByteArray.mk #[32])) ++ x20) ++ (ByteArray.mk #[32])) ++ x21) ++ ((((((((((ByteArray.mk #[32, 99, 111, 114, 101, 61]) ++ x22) ++ (ByteArray.mk #[32, 109, 111, 100, 117, 108, 101, 61])) ++ x23) ++ (ByteArray.mk #[32, 114, 101, 100, 115, 61])) ++ x24) ++ (ByteArray.mk #[32, 109, 97, 105, 108, 61])) ++ x25) ++ (ByteArray.mk #[32, 100, 101, 112, 116, 104, 61])) ++ x27))).size + ((ByteArray.mk #[10])).size ≤ mostBytes then (
 some (((((((((x3 ++ (ByteArray.mk #[32])) ++ x4) ++ (ByteArray.mk #[32])) ++ x20) ++ (ByteArray.mk #[32])) ++ x21) ++ ((((((((((ByteArray.mk #[32, 99, 111, 114, 101, 61]) ++ x22) ++ (ByteArray.mk #[32, 109, 111, 100, 117, 108, 101, 61])) ++ x23) ++ (ByteArray.mk #[32, 114, 101, 100, 115, 61])) ++ x24) ++ (ByteArray.mk #[32, 109, 97, 105, 108, 61])) ++ x25) ++ (ByteArray.mk #[32, 100, 101, 112, 116, 104, 61])) ++ x27)) ++ (ByteArray.mk #[10])), h19)) else none)))))) else none)) else none)) else none)) else none)) else none)) else none)) else none)) else none)) else none)) else none)) else none)) else none)) else none)) else none)) else none)) else none)
abbrev ks15 : List SK := [.agg [(.int .i64), (.int .i64), .str, (.int .i64), (.int .i64), (.int .i64), (.int .i64), .bool, .bool, (.int .i64), (.int .i64), (.int .i64), .ref, .ref]]
abbrev rs15 : List SK := [.one .str]
def e15 (N : Nat) : Env := ⟨Tryz.prog, 76, inTab [1, 26, 32], inTab [], natTab [(1, 1), (8, 1), (14, 1), (23, 1), (30, 1), (36, 1), (41, 1), (46, 1), (51, 1), (53, 1), (59, 1), (60, 1), (66, 1), (70, 1)], inTab [], calTab [(28, .pure (mkP ks28 rs28 F28x)), (29, .ro (mkFun ks29 rs29 (F29 N))), (30, .pure (mkP ks30 rs30 (F30 100)))], altTab [(262161, [⟨.normal, [1, 3, 5], [.lp 1 0, .one .str, .one .str], [1], [.cells [(.int .i64), (.int .i64), .str, (.int .i64), (.int .i64), (.int .i64), (.int .i64), .bool, .bool, (.int .i64), (.int .i64), (.int .i64), .ref, .ref]]⟩])], loopTab [], natTab [], inTab [8, 10]⟩
theorem fine15 (N : Nat) : Fine (e15 N) N 15 Tryz.f15 ks15 rs15 (F15 N) :=
  ⟨Tryz.func15, by kernel_rfl, by kernel_rfl, by kernel_rfl, loops_of trivial, by kernel_rfl, by kernel_rfl, fun _ => by kernel_rfl⟩
theorem good15 (N : Nat) : Go.L.Good (e15 N) := good_of ⟨gd28, ⟨gd29 N, ⟨gd30, trivial⟩⟩⟩
theorem gd15 (N : Nat) : CalOk Tryz.prog 15 (.ro (mkFun ks15 rs15 (F15 N))) := mkFun_ro (fine15 N) (good15 N) (by kernel_rfl)

/-! ### 5: info.Actor -/
def F5 (N : Nat) : V × Int × Int × H → Option (ByteArray × Int × H)
 | (a0, a1_0, a1_1, h) =>
 (F11 N (a0, h)).bind fun (x1, _) =>
 (if (x1 == 0) = true then (
 some ((ByteArray.mk #[]), 1, h))
 else (
 (F13 N (a0, a1_0, a1_1, h)).bind fun (x2, x3, x4, x5, x6, x7, x8, x9, x10, x11, x12, x13, x14, x15, x16, h17) =>
 (if (x16 != 0) = true then (
 none)
 else (
 (F15 N (x2, x3, x4, x5, x6, x7, x8, x9, x10, x11, x12, x13, x14, x15, h17)).bind fun (x18, _) =>
 some (x18, 0, h17)))))
abbrev ks5 : List SK := [.one .ref, .agg [(.int .i64), (.int .i64)]]
abbrev rs5 : List SK := [.one .str, .one (.int .i64)]
def e5 (N : Nat) : Env := ⟨Tryz.prog, 22, inTab [3, 6], inTab [], natTab [(3, 3), (6, 6)], inTab [], calTab [(11, .ro (mkFun ks11 rs11 (F11 N))), (13, .gro (mkFun ks13 rs13 (F13 N))), (15, .ro (mkFun ks15 rs15 (F15 N)))], altTab [], loopTab [], natTab [], inTab [5]⟩
theorem fine5 (N : Nat) : Fine (e5 N) N 5 Tryz.f5 ks5 rs5 (F5 N) :=
  ⟨Tryz.func5, by kernel_rfl, by kernel_rfl, by kernel_rfl, loops_of trivial, by kernel_rfl, by kernel_rfl, fun _ => by kernel_rfl⟩
theorem good5 (N : Nat) : Go.L.Good (e5 N) := good_of ⟨gd11 N, ⟨gdg13 N, ⟨gd15 N, trivial⟩⟩⟩
theorem gd5 (N : Nat) : CalOk Tryz.prog 5 (.full (mkFun ks5 rs5 (F5 N))) := mkFun_good (fine5 N) (good5 N)
theorem gl5 (N : Nat) : CalOk Tryz.prog 5 (.full (mkFun ks5 rs5 (locF false ks5 rs5 (F5 N)))) := loc_full (gd5 N)

/-! ### 6: info.Spread -/
def F6 (N : Nat) : V × Int × H → Option (Int × Int × Int × H)
 | (a0, a1, h) =>
 (F11 N (a0, h)).bind fun (x1, _) =>
 (if (x1 == 0) = true then (
 some (true, h))
 else (
 some ((decide (a1 < 0)), h))).bind fun (b2, h3) =>
 (if b2 = true then (
 some (true, h3))
 else (
 some ((decide (a1 ≥ 3)), h3))).bind fun (b4, h5) =>
 (if b4 = true then (
 some (0, 0, 1, h5))
 else (
 none))
abbrev ks6 : List SK := [.one .ref, .one (.int .i64)]
abbrev rs6 : List SK := [.one (.int .i64), .one (.int .i64), .one (.int .i64)]
def e6 (N : Nat) : Env := ⟨Tryz.prog, 53, inTab [8], inTab [], natTab [(8, 8), (31, 8), (32, 8), (35, 8), (36, 8), (40, 8), (41, 8), (46, 8), (47, 8)], inTab [], calTab [(11, .ro (mkFun ks11 rs11 (F11 N)))], altTab [], loopTab [], natTab [], inTab [3, 4, 5, 6, 7, 8, 9, 10]⟩
theorem lv6_0 (N : Nat) : ∀ A, (e6 N).lp (lid (loopAt Tryz.f6 0)) = some A → LoopOk (e6 N) N (loopAt Tryz.f6 0) A := fun A h => by
 rw [show (e6 N).lp (lid (loopAt Tryz.f6 0)) = none by kernel_rfl] at h; cases h
theorem fine6 (N : Nat) : Fine (e6 N) N 6 Tryz.f6 ks6 rs6 (F6 N) :=
  ⟨Tryz.func6, by kernel_rfl, by kernel_rfl, by kernel_rfl, loops_of ⟨lv6_0 N, trivial⟩, by kernel_rfl, by kernel_rfl, fun _ => by kernel_rfl⟩
theorem good6 (N : Nat) : Go.L.Good (e6 N) := good_of ⟨gd11 N, trivial⟩
theorem gd6 (N : Nat) : CalOk Tryz.prog 6 (.ro (mkFun ks6 rs6 (F6 N))) := mkFun_ro (fine6 N) (good6 N) (by kernel_rfl)

/-! ### 31: slices.Clone[[]int,int] -/
def F31 (N : Nat) : V × H → Option (V × H)
 | (a0, h) =>
 (isNilS a0).bind fun b1 =>
 (if b1 = true then (
 none)
 else (
 (some (h ++ [O.cells 0 []]) : Option H).bind fun h2 =>
 (scells h2 a0 1).bind fun cs5 =>
 (happ h2 (.sl (h).length 0 0 0 1 (some 0)) 1 (snlen a0) cs5).bind fun (v3, h4) =>
 some (v3, h4)))
abbrev ks31 : List SK := [.one .ref]
abbrev rs31 : List SK := [.one .ref]
def e31 (N : Nat) : Env := ⟨Tryz.prog, 8, inTab [], inTab [], natTab [], inTab [], calTab [], altTab [], loopTab [], natTab [], inTab [2]⟩
theorem fine31 (N : Nat) : Fine (e31 N) N 31 Tryz.f31 ks31 rs31 (F31 N) :=
  ⟨Tryz.func31, by kernel_rfl, by kernel_rfl, by kernel_rfl, loops_of trivial, by kernel_rfl, by kernel_rfl, fun _ => by kernel_rfl⟩
theorem good31 (N : Nat) : Go.L.Good (e31 N) := good_of trivial
theorem gd31 (N : Nat) : CalOk Tryz.prog 31 (.full (mkFun ks31 rs31 (F31 N))) := mkFun_good (fine31 N) (good31 N)
theorem gl31 (N : Nat) : CalOk Tryz.prog 31 (.gro (mkFun ks31 rs31 (locF true ks31 rs31 (F31 N)))) := loc_gro (gd31 N)

/-! ### 106: api.Func] -/
def F106 (N : Nat) : V × H → Option (V × H)
 | (a0, h) =>
 (isNilS a0).bind fun b1 =>
 (if b1 = true then (
 none)
 else (
 (some (h ++ [O.cells 0 []]) : Option H).bind fun h2 =>
 (scells h2 a0 4).bind fun cs5 =>
 (happ h2 (.sl (h).length 0 0 0 4 (some 0)) 4 (snlen a0) cs5).bind fun (v3, h4) =>
 some (v3, h4)))
abbrev ks106 : List SK := [.one .ref]
abbrev rs106 : List SK := [.one .ref]
def e106 (N : Nat) : Env := ⟨Tryz.prog, 8, inTab [], inTab [], natTab [], inTab [], calTab [], altTab [], loopTab [], natTab [], inTab [2]⟩
theorem fine106 (N : Nat) : Fine (e106 N) N 106 Tryz.f106 ks106 rs106 (F106 N) :=
  ⟨Tryz.func106, by kernel_rfl, by kernel_rfl, by kernel_rfl, loops_of trivial, by kernel_rfl, by kernel_rfl, fun _ => by kernel_rfl⟩
theorem good106 (N : Nat) : Go.L.Good (e106 N) := good_of trivial
theorem gd106 (N : Nat) : CalOk Tryz.prog 106 (.full (mkFun ks106 rs106 (F106 N))) := mkFun_good (fine106 N) (good106 N)

/-! ### 107: api.Instr] -/
def F107 (N : Nat) : V × H → Option (V × H)
 | (a0, h) =>
 (isNilS a0).bind fun b1 =>
 (if b1 = true then (
 none)
 else (
 (some (h ++ [O.cells 0 []]) : Option H).bind fun h2 =>
 (scells h2 a0 11).bind fun cs5 =>
 (happ h2 (.sl (h).length 0 0 0 11 (some 0)) 11 (snlen a0) cs5).bind fun (v3, h4) =>
 some (v3, h4)))
abbrev ks107 : List SK := [.one .ref]
abbrev rs107 : List SK := [.one .ref]
def e107 (N : Nat) : Env := ⟨Tryz.prog, 8, inTab [], inTab [], natTab [], inTab [], calTab [], altTab [], loopTab [], natTab [], inTab [2]⟩
theorem fine107 (N : Nat) : Fine (e107 N) N 107 Tryz.f107 ks107 rs107 (F107 N) :=
  ⟨Tryz.func107, by kernel_rfl, by kernel_rfl, by kernel_rfl, loops_of trivial, by kernel_rfl, by kernel_rfl, fun _ => by kernel_rfl⟩
theorem good107 (N : Nat) : Go.L.Good (e107 N) := good_of trivial
theorem gd107 (N : Nat) : CalOk Tryz.prog 107 (.full (mkFun ks107 rs107 (F107 N))) := mkFun_good (fine107 N) (good107 N)

/-! ### 108: api.Arm] -/
def F108 (N : Nat) : V × H → Option (V × H)
 | (a0, h) =>
 (isNilS a0).bind fun b1 =>
 (if b1 = true then (
 some (.nils, h))
 else (
 none))
abbrev ks108 : List SK := [.one .ref]
abbrev rs108 : List SK := [.one .ref]
def e108 (N : Nat) : Env := ⟨Tryz.prog, 8, inTab [], inTab [], natTab [], inTab [], calTab [], altTab [], loopTab [], natTab [], inTab [3]⟩
theorem fine108 (N : Nat) : Fine (e108 N) N 108 Tryz.f108 ks108 rs108 (F108 N) :=
  ⟨Tryz.func108, by kernel_rfl, by kernel_rfl, by kernel_rfl, loops_of trivial, by kernel_rfl, by kernel_rfl, fun _ => by kernel_rfl⟩
theorem good108 (N : Nat) : Go.L.Good (e108 N) := good_of trivial
theorem gd108 (N : Nat) : CalOk Tryz.prog 108 (.ro (mkFun ks108 rs108 (F108 N))) := mkFun_ro (fine108 N) (good108 N) (by kernel_rfl)

/-! ### 58: node.copied -/
def L58_1 (N : Nat) : Nat → Int × Int × Int × Int × Int × ByteArray × V × ByteArray × V × H → Option (Int × Int × ByteArray × V × ByteArray × V × H)
 | 0, _ => none
 | n + 1, (x39, x40, x41, x42, x43, x44, x45, x46, x47, h48) =>
 (if (decide (x43 < x42)) = true then (
 (sidx x47 x39 4).bind fun q49 =>
 ((rd h48 (padd q49 3) 0)).bind fun x50 =>
 (sidx x47 x39 4).bind fun q51 =>
 ((rd h48 (padd q51 3) 0)).bind fun x52 =>
 (sidx x52 x43 11).bind fun q53 =>
 ((rd h48 (padd q53 10) 0)).bind fun x54 =>
 (F108 N (x54, h48)).bind fun (x55, _) =>
 (sidx x50 x43 11).bind fun q56 =>
 (ck1 x55).bind fun _ =>
 (wr h48 (padd q56 10) [x55]).bind fun h57 =>
 L58_1 N n (x39, x40, x41, x42, (IntKind.i64.wrap (x43 + 1)), x44, x45, x46, x47, h57))
 else (
 some (x40, x41, x44, x45, x46, x47, h48)))
def L58_0 (N : Nat) : Nat → Int × Int × ByteArray × V × ByteArray × V × H → Option (ByteArray × V × ByteArray × V × H)
 | 0, _ => none
 | n + 1, (x65, x66, x67, x68, x69, x70, h71) =>
 (if (decide (x66 < x65)) = true then (
 (sidx x70 x66 4).bind fun q72 =>
 ((rd h71 (padd q72 3) 0)).bind fun x73 =>
 (F107 N (x73, h71)).bind fun (x74, h75) =>
 (sidx x70 x66 4).bind fun q76 =>
 (ck1 x74).bind fun _ =>
 (wr h75 (padd q76 3) [x74]).bind fun h77 =>
 (sidx x70 x66 4).bind fun q78 =>
 ((rd h77 (padd q78 3) 0)).bind fun x79 =>
 (slen x79).bind fun n80 =>
 (L58_1 N N (x66, x65, x66, n80, 0, x67, x68, x69, x70, h77)).bind fun (x81, x82, x83, x84, x85, x86, h87) =>
 L58_0 N n (x81, (IntKind.i64.wrap (x82 + 1)), x83, x84, x85, x86, h87))
 else (
 some (x67, x68, x69, x70, h71)))
def F58 (N : Nat) : ByteArray × V × H → Option (ByteArray × V × H)
 | (a0_0, a0_1, h) =>
 (F106 N (a0_1, h)).bind fun (x1, h2) =>
 (ck1 x1).bind fun _ =>
 (slen x1).bind fun n3 =>
 (L58_0 N N (n3, 0, (ByteArray.mk #[]), .nils, a0_0, x1, h2)).bind fun (x88, x89, x90, x91, h92) =>
 some (x90, x91, h92)
abbrev ks58 : List SK := [.agg [.str, .ref]]
abbrev rs58 : List SK := [.agg [.str, .ref]]
def e58 (N : Nat) : Env := ⟨Tryz.prog, 63, inTab [1, 2, 3], inTab [], natTab [(1, 1), (2, 2), (3, 3), (6, 1), (8, 1), (12, 3), (18, 3), (21, 3), (30, 3), (40, 3), (47, 3)], inTab [], calTab [(106, .full (mkFun ks106 rs106 (F106 N))), (107, .full (mkFun ks107 rs107 (F107 N))), (108, .ro (mkFun ks108 rs108 (F108 N)))], altTab [], loopTab [(3, ⟨⟨.normal, [2, 3, 14, 15], [.lp 2 0, .lp 3 0, .one (.int .i64), .one (.int .i64)], [2, 3], [.cells [.str, .ref], .cells [.str, .ref]]⟩, [⟨(.exit 0), [2, 3], [.lp 2 0, .lp 3 0], [2, 3], [.cells [.str, .ref], .cells [.str, .ref]]⟩], L58_0 N⟩), (7, ⟨⟨.normal, [2, 3, 4, 14, 15, 36, 37], [.lp 2 0, .lp 3 0, .one (.int .i64), .one (.int .i64), .one (.int .i64), .one (.int .i64), .one (.int .i64)], [2, 3], [.cells [.str, .ref], .cells [.str, .ref]]⟩, [⟨(.exit 2), [2, 3, 14, 15], [.lp 2 0, .lp 3 0, .one (.int .i64), .one (.int .i64)], [2, 3], [.cells [.str, .ref], .cells [.str, .ref]]⟩], L58_1 N⟩)], natTab [], inTab []⟩
theorem l58_0 (N : Nat) : ∀ A, (e58 N).lp (lid (loopAt Tryz.f58 0)) = some A → LoopOk (e58 N) N (loopAt Tryz.f58 0) A :=
  loopOk_of (A := ⟨⟨.normal, [2, 3, 14, 15], [.lp 2 0, .lp 3 0, .one (.int .i64), .one (.int .i64)], [2, 3], [.cells [.str, .ref], .cells [.str, .ref]]⟩, [⟨(.exit 0), [2, 3], [.lp 2 0, .lp 3 0], [2, 3], [.cells [.str, .ref], .cells [.str, .ref]]⟩], L58_0 N⟩) (by kernel_rfl) (fun _ => rfl) (fun _ _ => by kernel_rfl)
theorem l58_1 (N : Nat) : ∀ A, (e58 N).lp (lid (loopAt Tryz.f58 1)) = some A → LoopOk (e58 N) N (loopAt Tryz.f58 1) A :=
  loopOk_of (A := ⟨⟨.normal, [2, 3, 4, 14, 15, 36, 37], [.lp 2 0, .lp 3 0, .one (.int .i64), .one (.int .i64), .one (.int .i64), .one (.int .i64), .one (.int .i64)], [2, 3], [.cells [.str, .ref], .cells [.str, .ref]]⟩, [⟨(.exit 2), [2, 3, 14, 15], [.lp 2 0, .lp 3 0, .one (.int .i64), .one (.int .i64)], [2, 3], [.cells [.str, .ref], .cells [.str, .ref]]⟩], L58_1 N⟩) (by kernel_rfl) (fun _ => rfl) (fun _ _ => by kernel_rfl)
theorem fine58 (N : Nat) : Fine (e58 N) N 58 Tryz.f58 ks58 rs58 (F58 N) :=
  ⟨Tryz.func58, by kernel_rfl, by kernel_rfl, by kernel_rfl, loops_of ⟨l58_0 N, ⟨l58_1 N, trivial⟩⟩, by kernel_rfl, by kernel_rfl, fun _ => by kernel_rfl⟩
theorem good58 (N : Nat) : Go.L.Good (e58 N) := good_of ⟨gd106 N, ⟨gd107 N, ⟨gd108 N, trivial⟩⟩⟩
theorem gd58 (N : Nat) : CalOk Tryz.prog 58 (.full (mkFun ks58 rs58 (F58 N))) := mkFun_good (fine58 N) (good58 N)
theorem gl58 (N : Nat) : CalOk Tryz.prog 58 (.gro (mkFun ks58 rs58 (locF true ks58 rs58 (F58 N)))) := loc_gro (gd58 N)

/-! ### 32: node.modulesOf -/
def L32_0 (N : Nat) : Nat → V × V × Int × Int × H → Option (V × H)
 | 0, _ => none
 | n + 1, (x15, x16, x17, x18, h19) =>
 (if (decide (x18 < x17)) = true then (
 (sidx x16 x18 2).bind fun q20 =>
 (L.asStr (rd h19 q20 0)).bind fun x21 =>
 ((rd h19 q20 1)).bind fun x22 =>
 Option.bind (α := (ByteArray × V × H)) (locF true ks58 rs58 (F58 N) ((x21, x22, h19) : ByteArray × V × H)) fun (x23, x24, h25) =>
 (happ h25 x15 2 1 [(.str x23), x24]).bind fun (v26, h27) =>
 L32_0 N n (v26, x16, x17, (IntKind.i64.wrap (x18 + 1)), h27))
 else (
 some (x15, h19)))
def F32 (N : Nat) : V × H → Option (V × H)
 | (a0, h) =>
 (slen a0).bind fun n1 =>
 (L32_0 N N (.nils, a0, n1, 0, h)).bind fun (x28, h29) =>
 some (x28, h29)
abbrev ks32 : List SK := [.one .ref]
abbrev rs32 : List SK := [.one .ref]
def e32 (N : Nat) : Env := ⟨Tryz.prog, 19, inTab [5, 15], inTab [], natTab [(5, 5)], inTab [], calTab [(58, .gro (mkFun ks58 rs58 (locF true ks58 rs58 (F58 N))))], altTab [], loopTab [(3, ⟨⟨.normal, [3, 6, 7, 8], [.one .ref, .one .ref, .one (.int .i64), .one (.int .i64)], [], []⟩, [⟨(.exit 0), [3], [.one .ref], [], []⟩], L32_0 N⟩)], natTab [], inTab []⟩
theorem l32_0 (N : Nat) : ∀ A, (e32 N).lp (lid (loopAt Tryz.f32 0)) = some A → LoopOk (e32 N) N (loopAt Tryz.f32 0) A :=
  loopOk_of (A := ⟨⟨.normal, [3, 6, 7, 8], [.one .ref, .one .ref, .one (.int .i64), .one (.int .i64)], [], []⟩, [⟨(.exit 0), [3], [.one .ref], [], []⟩], L32_0 N⟩) (by kernel_rfl) (fun _ => rfl) (fun _ _ => by kernel_rfl)
theorem fine32 (N : Nat) : Fine (e32 N) N 32 Tryz.f32 ks32 rs32 (F32 N) :=
  ⟨Tryz.func32, by kernel_rfl, by kernel_rfl, by kernel_rfl, loops_of ⟨l32_0 N, trivial⟩, by kernel_rfl, by kernel_rfl, fun _ => by kernel_rfl⟩
theorem good32 (N : Nat) : Go.L.Good (e32 N) := good_of ⟨gl58 N, trivial⟩
theorem gd32 (N : Nat) : CalOk Tryz.prog 32 (.full (mkFun ks32 rs32 (F32 N))) := mkFun_good (fine32 N) (good32 N)
theorem gl32 (N : Nat) : CalOk Tryz.prog 32 (.gro (mkFun ks32 rs32 (locF true ks32 rs32 (F32 N)))) := loc_gro (gd32 N)

/-! ### 33: table.Table).Gens -/
def L33_0 (N : Nat) : Nat → V × V × Int × Int × H → Option (V × H)
 | 0, _ => none
 | n + 1, (x15, x16, x17, x18, h19) =>
 (if (decide (x18 < x17)) = true then (
 (sidx x16 x18 3).bind fun q20 =>
 (L.asInt .i64 (rd h19 q20 0)).bind fun x21 =>
 (L.asBool (rd h19 q20 1)).bind fun x22 =>
 (L.asStr (rd h19 q20 2)).bind fun x23 =>
 (happ h19 x15 1 1 [(.int .i64 x21)]).bind fun (v24, h25) =>
 L33_0 N n (v24, x16, x17, (IntKind.i64.wrap (x18 + 1)), h25))
 else (
 some (x15, h19)))
def F33 (N : Nat) : V × H → Option (V × H)
 | (a0, h) =>
 (F63 N (a0, h)).bind fun (x1, _) =>
 (if (!x1) = true then (
 none)
 else (
 (nck a0).bind fun _ =>
 ((rd h (padd a0 0) 0)).bind fun x2 =>
 (slen x2).bind fun n3 =>
 (L33_0 N N (.nils, x2, n3, 0, h)).bind fun (x26, h27) =>
 some (x26, h27)))
abbrev ks33 : List SK := [.one .ref]
abbrev rs33 : List SK := [.one .ref]
def e33 (N : Nat) : Env := ⟨Tryz.prog, 25, inTab [5, 21], inTab [], natTab [(5, 5), (19, 5)], inTab [], calTab [(63, .ro (mkFun ks63 rs63 (F63 N)))], altTab [], loopTab [(5, ⟨⟨.normal, [3, 12, 13, 14], [.one .ref, .one .ref, .one (.int .i64), .one (.int .i64)], [], []⟩, [⟨(.exit 0), [3], [.one .ref], [], []⟩], L33_0 N⟩)], natTab [], inTab [2]⟩
theorem l33_0 (N : Nat) : ∀ A, (e33 N).lp (lid (loopAt Tryz.f33 0)) = some A → LoopOk (e33 N) N (loopAt Tryz.f33 0) A :=
  loopOk_of (A := ⟨⟨.normal, [3, 12, 13, 14], [.one .ref, .one .ref, .one (.int .i64), .one (.int .i64)], [], []⟩, [⟨(.exit 0), [3], [.one .ref], [], []⟩], L33_0 N⟩) (by kernel_rfl) (fun _ => rfl) (fun _ _ => by kernel_rfl)
theorem fine33 (N : Nat) : Fine (e33 N) N 33 Tryz.f33 ks33 rs33 (F33 N) :=
  ⟨Tryz.func33, by kernel_rfl, by kernel_rfl, by kernel_rfl, loops_of ⟨l33_0 N, trivial⟩, by kernel_rfl, by kernel_rfl, fun _ => by kernel_rfl⟩
theorem good33 (N : Nat) : Go.L.Good (e33 N) := good_of ⟨gd63 N, trivial⟩
theorem gd33 (N : Nat) : CalOk Tryz.prog 33 (.full (mkFun ks33 rs33 (F33 N))) := mkFun_good (fine33 N) (good33 N)
theorem gl33 (N : Nat) : CalOk Tryz.prog 33 (.gro (mkFun ks33 rs33 (locF true ks33 rs33 (F33 N)))) := loc_gro (gd33 N)

/-! ### 64: table.Table).pid -/
def F64 (N : Nat) : V × Int × H → Option (Int × Int × H)
 | (a0, a1, h) =>
 (nck a0).bind fun _ =>
 ((rd h (padd a0 0) 0)).bind fun x1 =>
 (sidx x1 a1 3).bind fun q2 =>
 (L.asInt .i64 (rd h (padd q2 0) 0)).bind fun x3 =>
 some (a1, x3, h)
abbrev ks64 : List SK := [.one .ref, .one (.int .i64)]
abbrev rs64 : List SK := [.agg [(.int .i64), (.int .i64)]]
def e64 (N : Nat) : Env := ⟨Tryz.prog, 15, inTab [4], inTab [], natTab [(4, 4)], inTab [], calTab [], altTab [], loopTab [], natTab [], inTab []⟩
theorem fine64 (N : Nat) : Fine (e64 N) N 64 Tryz.f64 ks64 rs64 (F64 N) :=
  ⟨Tryz.func64, by kernel_rfl, by kernel_rfl, by kernel_rfl, loops_of trivial, by kernel_rfl, by kernel_rfl, fun _ => by kernel_rfl⟩
theorem good64 (N : Nat) : Go.L.Good (e64 N) := good_of trivial
theorem gd64 (N : Nat) : CalOk Tryz.prog 64 (.ro (mkFun ks64 rs64 (F64 N))) := mkFun_ro (fine64 N) (good64 N) (by kernel_rfl)

/-! ### 24: table.Table).Live -/
def L24_0 (N : Nat) : Nat → V × V × V × Int × Int × H → Option (V × H)
 | 0, _ => none
 | n + 1, (x24, x25, x26, x27, x28, h29) =>
 (if (decide (x28 < x27)) = true then (
 (sidx x26 x28 3).bind fun q30 =>
 (L.asInt .i64 (rd h29 q30 0)).bind fun x31 =>
 (L.asBool (rd h29 q30 1)).bind fun x32 =>
 (L.asStr (rd h29 q30 2)).bind fun x33 =>
 ((if x32 = true then (
 (F64 N (x24, x28, h29)).bind fun (x34, x35, _) =>
 (happ h29 x25 2 1 [(.int .i64 x34), (.int .i64 x35)]).bind fun (v36, h37) =>
 some (x24, v36, x26, x27, x28, h37))
 else (
 some (x24, x25, x26, x27, x28, h29))) : Option (V × V × V × Int × Int × H)).bind fun (x38, x39, x40, x41, x42, h43) =>
 L24_0 N n (x38, x39, x40, x41, (IntKind.i64.wrap (x42 + 1)), h43))
 else (
 some (x25, h29)))
def F24 (N : Nat) : V × H → Option (V × H)
 | (a0, h) =>
 (F63 N (a0, h)).bind fun (x1, _) =>
 (if (!x1) = true then (
 none)
 else (
 (nck a0).bind fun _ =>
 ((rd h (padd a0 0) 0)).bind fun x2 =>
 (slen x2).bind fun n3 =>
 (L24_0 N N (a0, .nils, x2, n3, 0, h)).bind fun (x44, h45) =>
 some (x44, h45)))
abbrev ks24 : List SK := [.one .ref]
abbrev rs24 : List SK := [.one .ref]
def e24 (N : Nat) : Env := ⟨Tryz.prog, 29, inTab [5, 25], inTab [], natTab [(5, 5), (19, 5)], inTab [], calTab [(63, .ro (mkFun ks63 rs63 (F63 N))), (64, .ro (mkFun ks64 rs64 (F64 N)))], altTab [(524308, [⟨.normal, [0, 3, 12, 13, 14], [.one .ref, .one .ref, .one .ref, .one (.int .i64), .one (.int .i64)], [], []⟩])], loopTab [(5, ⟨⟨.normal, [0, 3, 12, 13, 14], [.one .ref, .one .ref, .one .ref, .one (.int .i64), .one (.int .i64)], [], []⟩, [⟨(.exit 0), [3], [.one .ref], [], []⟩], L24_0 N⟩)], natTab [], inTab [2]⟩
theorem l24_0 (N : Nat) : ∀ A, (e24 N).lp (lid (loopAt Tryz.f24 0)) = some A → LoopOk (e24 N) N (loopAt Tryz.f24 0) A :=
  loopOk_of (A := ⟨⟨.normal, [0, 3, 12, 13, 14], [.one .ref, .one .ref, .one .ref, .one (.int .i64), .one (.int .i64)], [], []⟩, [⟨(.exit 0), [3], [.one .ref], [], []⟩], L24_0 N⟩) (by kernel_rfl) (fun _ => rfl) (fun _ _ => by kernel_rfl)
theorem fine24 (N : Nat) : Fine (e24 N) N 24 Tryz.f24 ks24 rs24 (F24 N) :=
  ⟨Tryz.func24, by kernel_rfl, by kernel_rfl, by kernel_rfl, loops_of ⟨l24_0 N, trivial⟩, by kernel_rfl, by kernel_rfl, fun _ => by kernel_rfl⟩
theorem good24 (N : Nat) : Go.L.Good (e24 N) := good_of ⟨gd63 N, ⟨gd64 N, trivial⟩⟩
theorem gd24 (N : Nat) : CalOk Tryz.prog 24 (.full (mkFun ks24 rs24 (F24 N))) := mkFun_good (fine24 N) (good24 N)

/-! ### 34: node.Node).all -/
def L34_0 (N : Nat) : Nat → V × V × V × Int × Int × H → Option (V × H)
 | 0, _ => none
 | n + 1, (x20, x21, x22, x23, x24, h25) =>
 (if (decide (x24 < x23)) = true then (
 (sidx x22 x24 2).bind fun q26 =>
 (L.asInt .i64 (rd h25 q26 0)).bind fun x27 =>
 (L.asInt .i64 (rd h25 q26 1)).bind fun x28 =>
 (nck x20).bind fun _ =>
 ((rd h25 (padd x20 6) 0)).bind fun x29 =>
 (hmap h25 x29).bind fun es30 =>
 (mlook (.int .i64 x27) es30).bind fun q31 =>
 ((some (Option.getD q31 .nilp))).bind fun x32 =>
 (ck1 x32).bind fun _ =>
 (happ h25 x21 1 1 (List.flatMap V.cells [x32])).bind fun (v33, h34) =>
 L34_0 N n (x20, v33, x22, x23, (IntKind.i64.wrap (x24 + 1)), h34))
 else (
 some (x21, h25)))
def F34 (N : Nat) : V × H → Option (V × H)
 | (a0, h) =>
 (nck a0).bind fun _ =>
 ((rd h (padd a0 2) 0)).bind fun x1 =>
 (F24 N (x1, h)).bind fun (x2, h3) =>
 (slen x2).bind fun n4 =>
 (L34_0 N N (a0, .nils, x2, n4, 0, h3)).bind fun (x35, h36) =>
 some (x35, h36)
abbrev ks34 : List SK := [.one .ref]
abbrev rs34 : List SK := [.one .ref]
def e34 (N : Nat) : Env := ⟨Tryz.prog, 28, inTab [5, 24], inTab [], natTab [(5, 5), (21, 5)], inTab [], calTab [(24, .full (mkFun ks24 rs24 (F24 N)))], altTab [], loopTab [(3, ⟨⟨.normal, [0, 3, 10, 11, 12], [.one .ref, .one .ref, .one .ref, .one (.int .i64), .one (.int .i64)], [], []⟩, [⟨(.exit 0), [3], [.one .ref], [], []⟩], L34_0 N⟩)], natTab [], inTab []⟩
theorem l34_0 (N : Nat) : ∀ A, (e34 N).lp (lid (loopAt Tryz.f34 0)) = some A → LoopOk (e34 N) N (loopAt Tryz.f34 0) A :=
  loopOk_of (A := ⟨⟨.normal, [0, 3, 10, 11, 12], [.one .ref, .one .ref, .one .ref, .one (.int .i64), .one (.int .i64)], [], []⟩, [⟨(.exit 0), [3], [.one .ref], [], []⟩], L34_0 N⟩) (by kernel_rfl) (fun _ => rfl) (fun _ _ => by kernel_rfl)
theorem fine34 (N : Nat) : Fine (e34 N) N 34 Tryz.f34 ks34 rs34 (F34 N) :=
  ⟨Tryz.func34, by kernel_rfl, by kernel_rfl, by kernel_rfl, loops_of ⟨l34_0 N, trivial⟩, by kernel_rfl, by kernel_rfl, fun _ => by kernel_rfl⟩
theorem good34 (N : Nat) : Go.L.Good (e34 N) := good_of ⟨gd24 N, trivial⟩
theorem gd34 (N : Nat) : CalOk Tryz.prog 34 (.full (mkFun ks34 rs34 (F34 N))) := mkFun_good (fine34 N) (good34 N)

/-! ### 36: box.Box).Marks -/
def F36 (N : Nat) : V × H → Option (List V × H)
 | (a0, h) =>
 (F72 N (a0, h)).bind fun (x1, _) =>
 (if (!x1) = true then (
 none)
 else (
 (nck a0).bind fun _ =>
 (rdN h (padd a0 3) 2).bind fun cs2 =>
 (if (cs2).length = 2 then (
 (if 0 + (cs2).length ≤ 2 then (
 ((if 0 + 2 ≤ ((splice [(.int .i64 0), (.int .i64 0)] 0 cs2)).length then some ((((splice [(.int .i64 0), (.int .i64 0)] 0 cs2)).drop 0).take 2) else none) : Option (List V)).bind fun cs3 =>
 some (cs3, h)) else none)) else none)))
abbrev ks36 : List SK := [.one .ref]
abbrev rs36 : List SK := [.blk]
def e36 (N : Nat) : Env := ⟨Tryz.prog, 11, inTab [2], inTab [], natTab [(2, 2)], inTab [], calTab [(72, .ro (mkFun ks72 rs72 (F72 N)))], altTab [], loopTab [], natTab [], inTab [2]⟩
theorem fine36 (N : Nat) : Fine (e36 N) N 36 Tryz.f36 ks36 rs36 (F36 N) :=
  ⟨Tryz.func36, by kernel_rfl, by kernel_rfl, by kernel_rfl, loops_of trivial, by kernel_rfl, by kernel_rfl, fun _ => by kernel_rfl⟩
theorem good36 (N : Nat) : Go.L.Good (e36 N) := good_of ⟨gd72 N, trivial⟩
theorem gd36 (N : Nat) : CalOk Tryz.prog 36 (.ro (mkFun ks36 rs36 (F36 N))) := mkFun_ro (fine36 N) (good36 N) (by kernel_rfl)

/-! ### 74: core.Core).given -/
def F74 (N : Nat) : V × H → Option (Bool × H)
 | (a0, h) =>
 (isNil a0).bind fun b1 =>
 (if (!b1) = true then (
 (nck a0).bind fun _ =>
 ((rd h (padd a0 0) 0)).bind fun x4 =>
 (slen x4).bind fun n5 =>
 some ((decide (n5 > 0)), h))
 else (
 some (false, h))).bind fun (b2, h3) =>
 some (b2, h3)
abbrev ks74 : List SK := [.one .ref]
abbrev rs74 : List SK := [.one .bool]
def e74 (N : Nat) : Env := ⟨Tryz.prog, 13, inTab [], inTab [], natTab [], inTab [], calTab [], altTab [], loopTab [], natTab [], inTab []⟩
theorem fine74 (N : Nat) : Fine (e74 N) N 74 Tryz.f74 ks74 rs74 (F74 N) :=
  ⟨Tryz.func74, by kernel_rfl, by kernel_rfl, by kernel_rfl, loops_of trivial, by kernel_rfl, by kernel_rfl, fun _ => by kernel_rfl⟩
theorem good74 (N : Nat) : Go.L.Good (e74 N) := good_of trivial
theorem gd74 (N : Nat) : CalOk Tryz.prog 74 (.ro (mkFun ks74 rs74 (F74 N))) := mkFun_ro (fine74 N) (good74 N) (by kernel_rfl)

/-! ### 75: core.class -/
def F75 (N : Nat) : Int × H → Option (Bool × H)
 | (a0, h) =>
 (if (decide (a0 ≥ 0)) = true then (
 some ((decide (a0 < 3)), h))
 else (
 some (false, h))).bind fun (b1, h2) =>
 some (b1, h2)
abbrev ks75 : List SK := [.one (.int .i64)]
abbrev rs75 : List SK := [.one .bool]
def e75 (N : Nat) : Env := ⟨Tryz.prog, 9, inTab [], inTab [], natTab [], inTab [], calTab [], altTab [], loopTab [], natTab [], inTab []⟩
theorem fine75 (N : Nat) : Fine (e75 N) N 75 Tryz.f75 ks75 rs75 (F75 N) :=
  ⟨Tryz.func75, by kernel_rfl, by kernel_rfl, by kernel_rfl, loops_of trivial, by kernel_rfl, by kernel_rfl, fun _ => by kernel_rfl⟩
theorem good75 (N : Nat) : Go.L.Good (e75 N) := good_of trivial
theorem gd75 : CalOk Tryz.prog 75 (.pure (mkP ks75 rs75 (F75 100))) := mkP_good (fine75 100) (good75 100) (by kernel_rfl) (by kernel_rfl)

/-! ### 120: api.Entry]).lives -/
def F120 (N : Nat) : V × H → Option (Bool × H)
 | (a0, h) =>
 (isNil a0).bind fun b1 =>
 (if (!b1) = true then (
 (nck a0).bind fun _ =>
 (L.asInt .i64 (rd h (padd a0 0) 0)).bind fun x4 =>
 some ((decide (x4 > 0)), h))
 else (
 some (false, h))).bind fun (b2, h3) =>
 some (b2, h3)
abbrev ks120 : List SK := [.one .ref]
abbrev rs120 : List SK := [.one .bool]
def e120 (N : Nat) : Env := ⟨Tryz.prog, 12, inTab [], inTab [], natTab [], inTab [], calTab [], altTab [], loopTab [], natTab [], inTab []⟩
theorem fine120 (N : Nat) : Fine (e120 N) N 120 Tryz.f120 ks120 rs120 (F120 N) :=
  ⟨Tryz.func120, by kernel_rfl, by kernel_rfl, by kernel_rfl, loops_of trivial, by kernel_rfl, by kernel_rfl, fun _ => by kernel_rfl⟩
theorem good120 (N : Nat) : Go.L.Good (e120 N) := good_of trivial
theorem gd120 (N : Nat) : CalOk Tryz.prog 120 (.ro (mkFun ks120 rs120 (F120 N))) := mkFun_ro (fine120 N) (good120 N) (by kernel_rfl)

/-! ### 121: api.Entry] -/
def F121 (N : Nat) : V × H → Option (V × H)
 | (a0, h) =>
 (slen a0).bind fun n1 =>
 (if 0 ≤ n1 then (if n1 ≤ n1 then (if n1 * ((3 : Nat) : Int) ≤ ((mostCells : Nat) : Int) then (
 (some (h ++ [O.cells 0 (repeatC (Int.toNat n1) [(.int .i64 0), (.int .i64 0), (.bool false)])]) : Option H).bind fun h2 =>
 (scells h2 a0 3).bind fun cs4 =>
 (if snlen a0 ≤ snlen (.sl (h).length 0 0 (Int.toNat n1) 3 (some (Int.toNat n1))) then (
 (hwrAll h2 (.sl (h).length 0 0 (Int.toNat n1) 3 (some (Int.toNat n1))) 3 cs4).bind fun h3 =>
 (slen a0).bind fun n5 =>
 (slen a0).bind fun n6 =>
 (slen (.sl (h).length 0 0 (Int.toNat n1) 3 (some (Int.toNat n1)))).bind fun n7 =>
 (ssl3 3 (.sl (h).length 0 0 (Int.toNat n1) 3 (some (Int.toNat n1))) 0 n5 n6).bind fun v8 =>
 some (v8, h3)) else none)) else none) else none) else none)
abbrev ks121 : List SK := [.one .ref]
abbrev rs121 : List SK := [.one .ref]
def e121 (N : Nat) : Env := ⟨Tryz.prog, 16, inTab [], inTab [], natTab [], inTab [], calTab [], altTab [], loopTab [], natTab [], inTab []⟩
theorem fine121 (N : Nat) : Fine (e121 N) N 121 Tryz.f121 ks121 rs121 (F121 N) :=
  ⟨Tryz.func121, by kernel_rfl, by kernel_rfl, by kernel_rfl, loops_of trivial, by kernel_rfl, by kernel_rfl, fun _ => by kernel_rfl⟩
theorem good121 (N : Nat) : Go.L.Good (e121 N) := good_of trivial
theorem gd121 (N : Nat) : CalOk Tryz.prog 121 (.full (mkFun ks121 rs121 (F121 N))) := mkFun_good (fine121 N) (good121 N)

/-! ### 76: api.Entry]).Items -/
def F76 (N : Nat) : V × H → Option (V × H)
 | (a0, h) =>
 (F120 N (a0, h)).bind fun (x1, _) =>
 (if (!x1) = true then (
 none)
 else (
 (nck a0).bind fun _ =>
 ((rd h (padd a0 1) 0)).bind fun x2 =>
 (F121 N (x2, h)).bind fun (x3, h4) =>
 some (x3, h4)))
abbrev ks76 : List SK := [.one .ref]
abbrev rs76 : List SK := [.one .ref]
def e76 (N : Nat) : Env := ⟨Tryz.prog, 11, inTab [], inTab [], natTab [], inTab [], calTab [(120, .ro (mkFun ks120 rs120 (F120 N))), (121, .full (mkFun ks121 rs121 (F121 N)))], altTab [], loopTab [], natTab [], inTab [2]⟩
theorem fine76 (N : Nat) : Fine (e76 N) N 76 Tryz.f76 ks76 rs76 (F76 N) :=
  ⟨Tryz.func76, by kernel_rfl, by kernel_rfl, by kernel_rfl, loops_of trivial, by kernel_rfl, by kernel_rfl, fun _ => by kernel_rfl⟩
theorem good76 (N : Nat) : Go.L.Good (e76 N) := good_of ⟨gd120 N, ⟨gd121 N, trivial⟩⟩
theorem gd76 (N : Nat) : CalOk Tryz.prog 76 (.full (mkFun ks76 rs76 (F76 N))) := mkFun_good (fine76 N) (good76 N)

/-! ### 37: core.Core).Queue -/
def F37 (N : Nat) : V × Int × H → Option (V × H)
 | (a0, a1, h) =>
 (F74 N (a0, h)).bind fun (x1, _) =>
 (if (!x1) = true then (
 some (true, h))
 else (
 (F75 100 (a1, [])).bind fun (x4, _) =>
 some ((!x4), h))).bind fun (b2, h3) =>
 (if b2 = true then (
 none)
 else (
 (nck a0).bind fun _ =>
 (aidx (padd a0 2) a1 3 1).bind fun q5 =>
 ((rd h3 (padd q5 0) 0)).bind fun x6 =>
 (F76 N (x6, h3)).bind fun (x7, h8) =>
 some (x7, h8)))
abbrev ks37 : List SK := [.one .ref, .one (.int .i64)]
abbrev rs37 : List SK := [.one .ref]
def e37 (N : Nat) : Env := ⟨Tryz.prog, 21, inTab [], inTab [], natTab [], inTab [], calTab [(74, .ro (mkFun ks74 rs74 (F74 N))), (75, .pure (mkP ks75 rs75 (F75 100))), (76, .full (mkFun ks76 rs76 (F76 N)))], altTab [], loopTab [], natTab [], inTab [2]⟩
theorem fine37 (N : Nat) : Fine (e37 N) N 37 Tryz.f37 ks37 rs37 (F37 N) :=
  ⟨Tryz.func37, by kernel_rfl, by kernel_rfl, by kernel_rfl, loops_of trivial, by kernel_rfl, by kernel_rfl, fun _ => by kernel_rfl⟩
theorem good37 (N : Nat) : Go.L.Good (e37 N) := good_of ⟨gd74 N, ⟨gd75, ⟨gd76 N, trivial⟩⟩⟩
theorem gd37 (N : Nat) : CalOk Tryz.prog 37 (.full (mkFun ks37 rs37 (F37 N))) := mkFun_good (fine37 N) (good37 N)

/-! ### 38: core.Core).Hand -/
def F38 (N : Nat) : V × H → Option (Int × H)
 | (a0, h) =>
 (F74 N (a0, h)).bind fun (x1, _) =>
 (if (!x1) = true then (
 none)
 else (
 (nck a0).bind fun _ =>
 (L.asInt .i64 (rd h (padd a0 1) 0)).bind fun x2 =>
 some (x2, h)))
abbrev ks38 : List SK := [.one .ref]
abbrev rs38 : List SK := [.one (.int .i64)]
def e38 (N : Nat) : Env := ⟨Tryz.prog, 10, inTab [], inTab [], natTab [], inTab [], calTab [(74, .ro (mkFun ks74 rs74 (F74 N)))], altTab [], loopTab [], natTab [], inTab [2]⟩
theorem fine38 (N : Nat) : Fine (e38 N) N 38 Tryz.f38 ks38 rs38 (F38 N) :=
  ⟨Tryz.func38, by kernel_rfl, by kernel_rfl, by kernel_rfl, loops_of trivial, by kernel_rfl, by kernel_rfl, fun _ => by kernel_rfl⟩
theorem good38 (N : Nat) : Go.L.Good (e38 N) := good_of ⟨gd74 N, trivial⟩
theorem gd38 (N : Nat) : CalOk Tryz.prog 38 (.ro (mkFun ks38 rs38 (F38 N))) := mkFun_ro (fine38 N) (good38 N) (by kernel_rfl)

/-! ### 77: timer.Wheel).lives -/
def F77 (N : Nat) : V × H → Option (Bool × H)
 | (a0, h) =>
 (isNil a0).bind fun b1 =>
 (if (!b1) = true then (
 (nck a0).bind fun _ =>
 (L.asBool (rd h (padd a0 0) 0)).bind fun x4 =>
 some (x4, h))
 else (
 some (false, h))).bind fun (b2, h3) =>
 some (b2, h3)
abbrev ks77 : List SK := [.one .ref]
abbrev rs77 : List SK := [.one .bool]
def e77 (N : Nat) : Env := ⟨Tryz.prog, 11, inTab [], inTab [], natTab [], inTab [], calTab [], altTab [], loopTab [], natTab [], inTab []⟩
theorem fine77 (N : Nat) : Fine (e77 N) N 77 Tryz.f77 ks77 rs77 (F77 N) :=
  ⟨Tryz.func77, by kernel_rfl, by kernel_rfl, by kernel_rfl, loops_of trivial, by kernel_rfl, by kernel_rfl, fun _ => by kernel_rfl⟩
theorem good77 (N : Nat) : Go.L.Good (e77 N) := good_of trivial
theorem gd77 (N : Nat) : CalOk Tryz.prog 77 (.ro (mkFun ks77 rs77 (F77 N))) := mkFun_ro (fine77 N) (good77 N) (by kernel_rfl)

/-! ### 123: timer.Wheel).all$1 -/
def F123 (N : Nat) : V × V × H → Option (H)
 | (a0, a1, h) =>
 ((rd h a1 0)).bind fun x1 =>
 (nck a0).bind fun _ =>
 ((rd h a0 0)).bind fun x2 =>
 (scells h x2 12).bind fun cs5 =>
 (happ h x1 12 (snlen x2) cs5).bind fun (v3, h4) =>
 (ck1 v3).bind fun _ =>
 (wr h4 a1 [v3]).bind fun h6 =>
 some h6
abbrev ks123 : List SK := [.one .ref, .one .ref]
abbrev rs123 : List SK := []
def e123 (N : Nat) : Env := ⟨Tryz.prog, 8, inTab [], inTab [], natTab [], inTab [], calTab [], altTab [], loopTab [], natTab [], inTab []⟩
theorem fine123 (N : Nat) : Fine (e123 N) N 123 Tryz.f123 ks123 rs123 (F123 N) :=
  ⟨Tryz.func123, by kernel_rfl, by kernel_rfl, by kernel_rfl, loops_of trivial, by kernel_rfl, by kernel_rfl, fun _ => by kernel_rfl⟩
theorem good123 (N : Nat) : Go.L.Good (e123 N) := good_of trivial
theorem gd123 (N : Nat) : CalOk Tryz.prog 123 (.full (mkFun ks123 rs123 (F123 N))) := mkFun_good (fine123 N) (good123 N)

/-! ### 122: timer.Wheel).each -/
abbrev rs122_10 : List SK := []
def D122_10 (N : Nat) : List (Nat × (List V → H → Option (Tup rs122_10 H))) := [(123, (mkFun ks123 rs123 (F123 N)).F)]
theorem dg122_10 (N : Nat) : CalOk Tryz.prog 16777226 (.dyn (dynF rs122_10 (D122_10 N))) := dyn_good ⟨mkFun_good (fine123 N) (good123 N), trivial⟩
abbrev rs122_25 : List SK := []
def D122_25 (N : Nat) : List (Nat × (List V → H → Option (Tup rs122_25 H))) := [(123, (mkFun ks123 rs123 (F123 N)).F)]
theorem dg122_25 (N : Nat) : CalOk Tryz.prog 16777241 (.dyn (dynF rs122_25 (D122_25 N))) := dyn_good ⟨mkFun_good (fine123 N) (good123 N), trivial⟩
def L122_1 (N : Nat) : Nat → V × V × Int × Int × Int × H → Option (V × V × Int × H)
 | 0, _ => none
 | n + 1, (x15, x16, x17, x18, x19, h20) =>
 (if (decide (x19 < 64)) = true then (
 (nck x15).bind fun _ =>
 (aidx (padd x15 3) x17 4 64).bind fun q21 =>
 (aidx q21 x19 64 1).bind fun q22 =>
 Option.bind (α := H) (dynC rs122_25 (D122_25 N) x16 [q22] h20) fun h23 =>
 L122_1 N n (x15, x16, x17, x18, (IntKind.i64.wrap (x19 + 1)), h23))
 else (
 some (x15, x16, x18, h20)))
def L122_0 (N : Nat) : Nat → V × V × Int × H → Option (H)
 | 0, _ => none
 | n + 1, (x28, x29, x30, h31) =>
 (if (decide (x30 < 4)) = true then (
 (L122_1 N N (x28, x29, x30, x30, 0, h31)).bind fun (x32, x33, x34, h35) =>
 L122_0 N n (x32, x33, (IntKind.i64.wrap (x34 + 1)), h35))
 else (
 some h31))
def F122 (N : Nat) : V × V × H → Option (H)
 | (a0, a1, h) =>
 (nck a0).bind fun _ =>
 Option.bind (α := H) (dynC rs122_10 (D122_10 N) a1 [(padd a0 259)] h) fun h1 =>
 (L122_0 N N (a0, a1, 0, h1)).bind fun h36 =>
 some h36
abbrev ks122 : List SK := [.one .ref, .one .ref]
abbrev rs122 : List SK := []
def e122 (N : Nat) : Env := ⟨Tryz.prog, 28, inTab [], inTab [], natTab [], inTab [], calTab [(16777226, .dyn (dynF rs122_10 (D122_10 N))), (16777241, .dyn (dynF rs122_25 (D122_25 N)))], altTab [], loopTab [(2, ⟨⟨.normal, [0, 1, 11], [.one .ref, .one .ref, .one (.int .i64)], [], []⟩, [⟨(.exit 0), [], [], [], []⟩], L122_0 N⟩), (5, ⟨⟨.normal, [0, 1, 4, 11, 14], [.one .ref, .one .ref, .one (.int .i64), .one (.int .i64), .one (.int .i64)], [], []⟩, [⟨(.exit 2), [0, 1, 11], [.one .ref, .one .ref, .one (.int .i64)], [], []⟩], L122_1 N⟩)], natTab [], inTab []⟩
theorem l122_0 (N : Nat) : ∀ A, (e122 N).lp (lid (loopAt Tryz.f122 0)) = some A → LoopOk (e122 N) N (loopAt Tryz.f122 0) A :=
  loopOk_of (A := ⟨⟨.normal, [0, 1, 11], [.one .ref, .one .ref, .one (.int .i64)], [], []⟩, [⟨(.exit 0), [], [], [], []⟩], L122_0 N⟩) (by kernel_rfl) (fun _ => rfl) (fun _ _ => by kernel_rfl)
theorem l122_1 (N : Nat) : ∀ A, (e122 N).lp (lid (loopAt Tryz.f122 1)) = some A → LoopOk (e122 N) N (loopAt Tryz.f122 1) A :=
  loopOk_of (A := ⟨⟨.normal, [0, 1, 4, 11, 14], [.one .ref, .one .ref, .one (.int .i64), .one (.int .i64), .one (.int .i64)], [], []⟩, [⟨(.exit 2), [0, 1, 11], [.one .ref, .one .ref, .one (.int .i64)], [], []⟩], L122_1 N⟩) (by kernel_rfl) (fun _ => rfl) (fun _ _ => by kernel_rfl)
theorem fine122 (N : Nat) : Fine (e122 N) N 122 Tryz.f122 ks122 rs122 (F122 N) :=
  ⟨Tryz.func122, by kernel_rfl, by kernel_rfl, by kernel_rfl, loops_of ⟨l122_0 N, ⟨l122_1 N, trivial⟩⟩, by kernel_rfl, by kernel_rfl, fun _ => by kernel_rfl⟩
theorem good122 (N : Nat) : Go.L.Good (e122 N) := good_of ⟨dg122_10 N, ⟨dg122_25 N, trivial⟩⟩
theorem gd122 (N : Nat) : CalOk Tryz.prog 122 (.full (mkFun ks122 rs122 (F122 N))) := mkFun_good (fine122 N) (good122 N)

/-! ### 162: bits.Len64 -/
def F162 (N : Nat) : Int × H → Option (Int × H)
 | (a0, h) =>
 (if (decide (a0 ≥ 4294967296)) = true then (
 none)
 else (
 (if (decide (a0 ≥ 65536)) = true then (
 none)
 else (
 (if (decide (a0 ≥ 256)) = true then (
 none)
 else (
 (if 0 ≤ (IntKind.u8.wrap a0) then ((ByteArray.mk #[0, 1, 2, 2, 3, 3, 3, 3, 4, 4, 4, 4, 4, 4, 4, 4, 5, 5, 5, 5, 5, 5, 5, 5, 5, 5, 5, 5, 5, 5, 5, 5, 6, 6, 6, 6, 6, 6, 6, 6, 6, 6, 6, 6, 6, 6, 6, 6, 6, 6, 6, 6, 6, 6, 6, 6, 6, 6, 6, 6, 6, 6, 6, 6, 7, 7, 7, 7, 7, 7, 7, 7, 7, 7, 7, 7, 7, 7, 7, 7, 7, 7, 7, 7, 7, 7, 7, 7, 7, 7, 7, 7, 7, 7, 7, 7, 7, 7, 7, 7, 7, 7, 7, 7, 7, 7, 7, 7, 7, 7, 7, 7, 7, 7, 7, 7, 7, 7, 7, 7, 7, 7, 7, 7, 7, 7, 7, 7, 8, 8, 8, 8, 8, 8, 8, 8, 8, 8, 8, 8, 8, 8, 8, 8, 8, 8, 8, 8, 8, 8, 8, 8, 8, 8, 8, 8, 8, 8, 8, 8, 8, 8, 8, 8, 8, 8, 8, 8, 8, 8, 8, 8, 8, 8, 8, 8, 8, 8, 8, 8, 8, 8, 8, 8, 8, 8, 8, 8, 8, 8, 8, 8, 8, 8, 8, 8, 8, 8, 8, 8, 8, 8, 8, 8, 8, 8, 8, 8, 8, 8, 8, 8, 8, 8, 8, 8, 8, 8, 8, 8, 8, 8, 8, 8, 8, 8, 8, 8, 8, 8, 8, 8, 8, 8, 8, 8, 8, 8, 8, 8, 8, 8, 8, 8, 8, 8, 8, 8, 8, 8, 8, 8, 8, 8, 8, 8])[Int.toNat (IntKind.u8.wrap a0)]?.bind fun c1 =>
 some ((IntKind.i64.wrap (0 + (IntKind.i64.wrap ((UInt8.toNat c1 : Nat) : Int)))), h)) else none)))))))
abbrev ks162 : List SK := [.one (.int .u64)]
abbrev rs162 : List SK := [.one (.int .i64)]
def e162 (N : Nat) : Env := ⟨Tryz.prog, 25, inTab [], inTab [], natTab [], inTab [], calTab [], altTab [], loopTab [], natTab [], inTab [2, 3, 5, 6, 8, 9]⟩
theorem fine162 (N : Nat) : Fine (e162 N) N 162 Tryz.f162 ks162 rs162 (F162 N) :=
  ⟨Tryz.func162, by kernel_rfl, by kernel_rfl, by kernel_rfl, loops_of trivial, by kernel_rfl, by kernel_rfl, fun _ => by kernel_rfl⟩
theorem good162 (N : Nat) : Go.L.Good (e162 N) := good_of trivial
theorem gd162 : CalOk Tryz.prog 162 (.pure (mkP ks162 rs162 (F162 100))) := mkP_good (fine162 100) (good162 100) (by kernel_rfl) (by kernel_rfl)

/-! ### 127: bits.Len -/
def F127 (N : Nat) : Int × H → Option (Int × H)
 | (a0, h) =>
 (if false = true then (
 none)
 else (
 (F162 100 (a0, [])).bind fun (x1, _) =>
 some (x1, h)))
abbrev ks127 : List SK := [.one (.int .u64)]
abbrev rs127 : List SK := [.one (.int .i64)]
def e127 (N : Nat) : Env := ⟨Tryz.prog, 8, inTab [], inTab [], natTab [], inTab [], calTab [(162, .pure (mkP ks162 rs162 (F162 100)))], altTab [], loopTab [], natTab [], inTab [1]⟩
theorem fine127 (N : Nat) : Fine (e127 N) N 127 Tryz.f127 ks127 rs127 (F127 N) :=
  ⟨Tryz.func127, by kernel_rfl, by kernel_rfl, by kernel_rfl, loops_of trivial, by kernel_rfl, by kernel_rfl, fun _ => by kernel_rfl⟩
theorem good127 (N : Nat) : Go.L.Good (e127 N) := good_of ⟨gd162, trivial⟩
theorem gd127 : CalOk Tryz.prog 127 (.pure (mkP ks127 rs127 (F127 100))) := mkP_good (fine127 100) (good127 100) (by kernel_rfl) (by kernel_rfl)

/-! ### 181: timer.entry] -/
def L181_0 (N : Nat) : Nat → Int × Int × H → Option (H)
 | 0, _ => none
 | n + 1, (x4, x5, h6) =>
 (if (decide (x5 < x4)) = true then (
 none)
 else (
 some h6))
def F181 (N : Nat) : V × Int × Int × V × H → Option (H)
 | (a0, a1, a2, a3, h) =>
 (L181_0 N N (a2, (IntKind.i64.wrap (a1 + 1)), h)).bind fun h7 =>
 some h7
abbrev ks181 : List SK := [.one .ref, .one (.int .i64), .one (.int .i64), .one .ref]
abbrev rs181 : List SK := []
def e181 (N : Nat) : Env := ⟨Tryz.prog, 53, inTab [], inTab [], natTab [], inTab [], calTab [], altTab [], loopTab [(1, ⟨⟨.normal, [2, 8], [.one (.int .i64), .one (.int .i64)], [], []⟩, [⟨(.exit 0), [], [], [], []⟩], L181_0 N⟩)], natTab [], inTab [2, 3, 4, 5, 6]⟩
theorem l181_0 (N : Nat) : ∀ A, (e181 N).lp (lid (loopAt Tryz.f181 0)) = some A → LoopOk (e181 N) N (loopAt Tryz.f181 0) A :=
  loopOk_of (A := ⟨⟨.normal, [2, 8], [.one (.int .i64), .one (.int .i64)], [], []⟩, [⟨(.exit 0), [], [], [], []⟩], L181_0 N⟩) (by kernel_rfl) (fun _ => rfl) (fun _ _ => by kernel_rfl)
theorem lv181_1 (N : Nat) : ∀ A, (e181 N).lp (lid (loopAt Tryz.f181 1)) = some A → LoopOk (e181 N) N (loopAt Tryz.f181 1) A := fun A h => by
 rw [show (e181 N).lp (lid (loopAt Tryz.f181 1)) = none by kernel_rfl] at h; cases h
theorem fine181 (N : Nat) : Fine (e181 N) N 181 Tryz.f181 ks181 rs181 (F181 N) :=
  ⟨Tryz.func181, by kernel_rfl, by kernel_rfl, by kernel_rfl, loops_of ⟨l181_0 N, ⟨lv181_1 N, trivial⟩⟩, by kernel_rfl, by kernel_rfl, fun _ => by kernel_rfl⟩
theorem good181 (N : Nat) : Go.L.Good (e181 N) := good_of trivial
theorem gdg181 (N : Nat) : CalOk Tryz.prog 181 (.gro (mkFun ks181 rs181 (F181 N))) := mkFun_groC (fine181 N) (good181 N) (by kernel_rfl)

/-! ### 152: timer.entry] -/
def L152_0 (N : Nat) (rec : V × Int × Int × Int × V × H → Option (H)) : Nat → V × Int × Int × V × H → Option (H)
 | 0, _ => none
 | n + 1, (x7, x8, x9, x10, h11) =>
 (if (decide ((IntKind.i64.wrap (x9 - x8)) ≤ 12)) = true then (
 (F181 N (x7, x8, x9, x10, h11)).bind fun h12 =>
 some h12)
 else (
 none))
def F152 (N : Nat) : Nat → V × Int × Int × Int × V × H → Option (H)
 | 0, _ => none
 | d + 1, (a0, a1, a2, a3, a4, h) =>
 (L152_0 N (F152 N d) N (a0, a1, a2, a4, h)).bind fun h13 =>
 some h13
abbrev ks152 : List SK := [.one .ref, .one (.int .i64), .one (.int .i64), .one (.int .i64), .one .ref]
abbrev rs152 : List SK := []
def e152 (N d : Nat) : Env := ⟨Tryz.prog, 148, inTab [], inTab [], natTab [], inTab [], calTab [(181, .gro (mkFun ks181 rs181 (F181 N)))], altTab [], loopTab [(2, ⟨⟨.normal, [0, 1, 2, 4], [.one .ref, .one (.int .i64), .one (.int .i64), .one .ref], [], []⟩, [⟨.ret, [], [], [], []⟩], L152_0 N (F152 N d)⟩)], natTab [], inTab [5, 6, 7, 8, 9, 10, 11, 12, 13, 14, 15, 16, 17, 18, 19, 20, 21, 22, 23, 24, 25, 26, 27, 28, 29, 30]⟩
theorem l152_0 (N d : Nat) : ∀ A, (e152 N d).lp (lid (loopAt Tryz.f152 0)) = some A → LoopOk (e152 N d) N (loopAt Tryz.f152 0) A :=
  loopOk_of (A := ⟨⟨.normal, [0, 1, 2, 4], [.one .ref, .one (.int .i64), .one (.int .i64), .one .ref], [], []⟩, [⟨.ret, [], [], [], []⟩], L152_0 N (F152 N d)⟩) (by kernel_rfl) (fun _ => rfl) (fun _ _ => by kernel_rfl)
theorem fine152 (N d : Nat) : Fine (e152 N d) N 152 Tryz.f152 ks152 rs152 (F152 N (d + 1)) :=
  ⟨Tryz.func152, by kernel_rfl, by kernel_rfl, by kernel_rfl, loops_of ⟨l152_0 N d, trivial⟩, by kernel_rfl, by kernel_rfl, fun _ => by kernel_rfl⟩
theorem gd152 (N : Nat) : ∀ d, CalOk Tryz.prog 152 (.full (mkFun ks152 rs152 (F152 N d)))
  | 0 => fun vs h s he => by obtain ⟨t, _, he⟩ := Option.bind_eq_some_iff.1 he; cases he
  | d + 1 => mkFun_good (fine152 N d) (good_of ⟨gdg181 N, trivial⟩)
theorem good152 (N d : Nat) : Go.L.Good (e152 N d) := good_of ⟨gdg181 N, trivial⟩

/-! ### 124: timer.entry] -/
def F124 (N : Nat) : V × V × H → Option (H)
 | (a0, a1, h) =>
 (slen a0).bind fun n1 =>
 (F127 100 ((IntKind.u64.wrap n1), [])).bind fun (x2, _) =>
 (F152 N N (a0, 0, n1, x2, a1, h)).bind fun h3 =>
 some h3
abbrev ks124 : List SK := [.one .ref, .one .ref]
abbrev rs124 : List SK := []
def e124 (N : Nat) : Env := ⟨Tryz.prog, 14, inTab [], inTab [], natTab [], inTab [], calTab [(127, .pure (mkP ks127 rs127 (F127 100))), (152, .full (mkFun ks152 rs152 (F152 N N)))], altTab [], loopTab [], natTab [], inTab []⟩
theorem fine124 (N : Nat) : Fine (e124 N) N 124 Tryz.f124 ks124 rs124 (F124 N) :=
  ⟨Tryz.func124, by kernel_rfl, by kernel_rfl, by kernel_rfl, loops_of trivial, by kernel_rfl, by kernel_rfl, fun _ => by kernel_rfl⟩
theorem good124 (N : Nat) : Go.L.Good (e124 N) := good_of ⟨gd127, ⟨gd152 N N, trivial⟩⟩
theorem gd124 (N : Nat) : CalOk Tryz.prog 124 (.full (mkFun ks124 rs124 (F124 N))) := mkFun_good (fine124 N) (good124 N)

/-! ### 79: timer.Wheel).all -/
def F79 (N : Nat) : V × H → Option (V × H)
 | (a0, h) =>
 (some (h ++ [O.cells 0 [.nils]]) : Option H).bind fun h1 =>
 (F122 N (a0, (.fn 123 [(.ptr (h).length 0 0)]), h1)).bind fun h2 =>
 ((rd h2 (.ptr (h).length 0 0) 0)).bind fun x3 =>
 (F124 N (x3, (.fn 125 []), h2)).bind fun h4 =>
 ((rd h4 (.ptr (h).length 0 0) 0)).bind fun x5 =>
 some (x5, h4)
abbrev ks79 : List SK := [.one .ref]
abbrev rs79 : List SK := [.one .ref]
def e79 (N : Nat) : Env := ⟨Tryz.prog, 10, inTab [], inTab [], natTab [], inTab [], calTab [(122, .full (mkFun ks122 rs122 (F122 N))), (124, .full (mkFun ks124 rs124 (F124 N)))], altTab [], loopTab [], natTab [], inTab []⟩
theorem fine79 (N : Nat) : Fine (e79 N) N 79 Tryz.f79 ks79 rs79 (F79 N) :=
  ⟨Tryz.func79, by kernel_rfl, by kernel_rfl, by kernel_rfl, loops_of trivial, by kernel_rfl, by kernel_rfl, fun _ => by kernel_rfl⟩
theorem good79 (N : Nat) : Go.L.Good (e79 N) := good_of ⟨gd122 N, ⟨gd124 N, trivial⟩⟩
theorem gd79 (N : Nat) : CalOk Tryz.prog 79 (.full (mkFun ks79 rs79 (F79 N))) := mkFun_good (fine79 N) (good79 N)

/-! ### 78: timer.told -/
def L78_0 (N : Nat) : Nat → V × Int × Int × H → Option (V × H)
 | 0, _ => none
 | n + 1, (x6, x7, x8, h9) =>
 (if (decide (x8 < x7)) = true then (
 none)
 else (
 some (x6, h9)))
def F78 (N : Nat) : V × H → Option (V × H)
 | (a0, h) =>
 (slen a0).bind fun n1 =>
 (L78_0 N N (.nils, n1, 0, h)).bind fun (x10, h11) =>
 some (x10, h11)
abbrev ks78 : List SK := [.one .ref]
abbrev rs78 : List SK := [.one .ref]
def e78 (N : Nat) : Env := ⟨Tryz.prog, 19, inTab [5, 15], inTab [], natTab [(5, 5), (13, 5)], inTab [], calTab [], altTab [], loopTab [(3, ⟨⟨.normal, [3, 7, 8], [.one .ref, .one (.int .i64), .one (.int .i64)], [], []⟩, [⟨(.exit 0), [3], [.one .ref], [], []⟩], L78_0 N⟩)], natTab [], inTab [4, 5, 6]⟩
theorem l78_0 (N : Nat) : ∀ A, (e78 N).lp (lid (loopAt Tryz.f78 0)) = some A → LoopOk (e78 N) N (loopAt Tryz.f78 0) A :=
  loopOk_of (A := ⟨⟨.normal, [3, 7, 8], [.one .ref, .one (.int .i64), .one (.int .i64)], [], []⟩, [⟨(.exit 0), [3], [.one .ref], [], []⟩], L78_0 N⟩) (by kernel_rfl) (fun _ => rfl) (fun _ _ => by kernel_rfl)
theorem fine78 (N : Nat) : Fine (e78 N) N 78 Tryz.f78 ks78 rs78 (F78 N) :=
  ⟨Tryz.func78, by kernel_rfl, by kernel_rfl, by kernel_rfl, loops_of ⟨l78_0 N, trivial⟩, by kernel_rfl, by kernel_rfl, fun _ => by kernel_rfl⟩
theorem good78 (N : Nat) : Go.L.Good (e78 N) := good_of trivial
theorem gd78 (N : Nat) : CalOk Tryz.prog 78 (.ro (mkFun ks78 rs78 (F78 N))) := mkFun_ro (fine78 N) (good78 N) (by kernel_rfl)

/-! ### 39: timer.Wheel).List -/
def F39 (N : Nat) : V × H → Option (V × H)
 | (a0, h) =>
 (F77 N (a0, h)).bind fun (x1, _) =>
 (if (!x1) = true then (
 none)
 else (
 (F79 N (a0, h)).bind fun (x2, h3) =>
 (F78 N (x2, h3)).bind fun (x4, _) =>
 some (x4, h3)))
abbrev ks39 : List SK := [.one .ref]
abbrev rs39 : List SK := [.one .ref]
def e39 (N : Nat) : Env := ⟨Tryz.prog, 9, inTab [], inTab [], natTab [], inTab [], calTab [(77, .ro (mkFun ks77 rs77 (F77 N))), (79, .full (mkFun ks79 rs79 (F79 N))), (78, .ro (mkFun ks78 rs78 (F78 N)))], altTab [], loopTab [], natTab [], inTab [2]⟩
theorem fine39 (N : Nat) : Fine (e39 N) N 39 Tryz.f39 ks39 rs39 (F39 N) :=
  ⟨Tryz.func39, by kernel_rfl, by kernel_rfl, by kernel_rfl, loops_of trivial, by kernel_rfl, by kernel_rfl, fun _ => by kernel_rfl⟩
theorem good39 (N : Nat) : Go.L.Good (e39 N) := good_of ⟨gd77 N, ⟨gd79 N, ⟨gd78 N, trivial⟩⟩⟩
theorem gd39 (N : Nat) : CalOk Tryz.prog 39 (.full (mkFun ks39 rs39 (F39 N))) := mkFun_good (fine39 N) (good39 N)

/-! ### 80: tie.Ties).lives -/
def F80 (N : Nat) : V × H → Option (Bool × H)
 | (a0, h) =>
 (isNil a0).bind fun b1 =>
 (if (!b1) = true then (
 (nck a0).bind fun _ =>
 ((rd h (padd a0 0) 0)).bind fun x4 =>
 (isNilM x4).bind fun b5 =>
 some ((!b5), h))
 else (
 some (false, h))).bind fun (b2, h3) =>
 some (b2, h3)
abbrev ks80 : List SK := [.one .ref]
abbrev rs80 : List SK := [.one .bool]
def e80 (N : Nat) : Env := ⟨Tryz.prog, 12, inTab [], inTab [], natTab [], inTab [], calTab [], altTab [], loopTab [], natTab [], inTab []⟩
theorem fine80 (N : Nat) : Fine (e80 N) N 80 Tryz.f80 ks80 rs80 (F80 N) :=
  ⟨Tryz.func80, by kernel_rfl, by kernel_rfl, by kernel_rfl, loops_of trivial, by kernel_rfl, by kernel_rfl, fun _ => by kernel_rfl⟩
theorem good80 (N : Nat) : Go.L.Good (e80 N) := good_of trivial
theorem gd80 (N : Nat) : CalOk Tryz.prog 80 (.ro (mkFun ks80 rs80 (F80 N))) := mkFun_ro (fine80 N) (good80 N) (by kernel_rfl)

/-! ### 153: api.Tie] -/
def L153_0 (N : Nat) : Nat → Int × Int × H → Option (H)
 | 0, _ => none
 | n + 1, (x4, x5, h6) =>
 (if (decide (x5 < x4)) = true then (
 none)
 else (
 some h6))
def F153 (N : Nat) : V × Int × Int × V × H → Option (H)
 | (a0, a1, a2, a3, h) =>
 (L153_0 N N (a2, (IntKind.i64.wrap (a1 + 1)), h)).bind fun h7 =>
 some h7
abbrev ks153 : List SK := [.one .ref, .one (.int .i64), .one (.int .i64), .one .ref]
abbrev rs153 : List SK := []
def e153 (N : Nat) : Env := ⟨Tryz.prog, 53, inTab [], inTab [], natTab [], inTab [], calTab [], altTab [], loopTab [(1, ⟨⟨.normal, [2, 8], [.one (.int .i64), .one (.int .i64)], [], []⟩, [⟨(.exit 0), [], [], [], []⟩], L153_0 N⟩)], natTab [], inTab [2, 3, 4, 5, 6]⟩
theorem l153_0 (N : Nat) : ∀ A, (e153 N).lp (lid (loopAt Tryz.f153 0)) = some A → LoopOk (e153 N) N (loopAt Tryz.f153 0) A :=
  loopOk_of (A := ⟨⟨.normal, [2, 8], [.one (.int .i64), .one (.int .i64)], [], []⟩, [⟨(.exit 0), [], [], [], []⟩], L153_0 N⟩) (by kernel_rfl) (fun _ => rfl) (fun _ _ => by kernel_rfl)
theorem lv153_1 (N : Nat) : ∀ A, (e153 N).lp (lid (loopAt Tryz.f153 1)) = some A → LoopOk (e153 N) N (loopAt Tryz.f153 1) A := fun A h => by
 rw [show (e153 N).lp (lid (loopAt Tryz.f153 1)) = none by kernel_rfl] at h; cases h
theorem fine153 (N : Nat) : Fine (e153 N) N 153 Tryz.f153 ks153 rs153 (F153 N) :=
  ⟨Tryz.func153, by kernel_rfl, by kernel_rfl, by kernel_rfl, loops_of ⟨l153_0 N, ⟨lv153_1 N, trivial⟩⟩, by kernel_rfl, by kernel_rfl, fun _ => by kernel_rfl⟩
theorem good153 (N : Nat) : Go.L.Good (e153 N) := good_of trivial
theorem gdg153 (N : Nat) : CalOk Tryz.prog 153 (.gro (mkFun ks153 rs153 (F153 N))) := mkFun_groC (fine153 N) (good153 N) (by kernel_rfl)

/-! ### 126: api.Tie] -/
def L126_0 (N : Nat) (rec : V × Int × Int × Int × V × H → Option (H)) : Nat → V × Int × Int × V × H → Option (H)
 | 0, _ => none
 | n + 1, (x7, x8, x9, x10, h11) =>
 (if (decide ((IntKind.i64.wrap (x9 - x8)) ≤ 12)) = true then (
 (F153 N (x7, x8, x9, x10, h11)).bind fun h12 =>
 some h12)
 else (
 none))
def F126 (N : Nat) : Nat → V × Int × Int × Int × V × H → Option (H)
 | 0, _ => none
 | d + 1, (a0, a1, a2, a3, a4, h) =>
 (L126_0 N (F126 N d) N (a0, a1, a2, a4, h)).bind fun h13 =>
 some h13
abbrev ks126 : List SK := [.one .ref, .one (.int .i64), .one (.int .i64), .one (.int .i64), .one .ref]
abbrev rs126 : List SK := []
def e126 (N d : Nat) : Env := ⟨Tryz.prog, 148, inTab [], inTab [], natTab [], inTab [], calTab [(153, .gro (mkFun ks153 rs153 (F153 N)))], altTab [], loopTab [(2, ⟨⟨.normal, [0, 1, 2, 4], [.one .ref, .one (.int .i64), .one (.int .i64), .one .ref], [], []⟩, [⟨.ret, [], [], [], []⟩], L126_0 N (F126 N d)⟩)], natTab [], inTab [5, 6, 7, 8, 9, 10, 11, 12, 13, 14, 15, 16, 17, 18, 19, 20, 21, 22, 23, 24, 25, 26, 27, 28, 29, 30]⟩
theorem l126_0 (N d : Nat) : ∀ A, (e126 N d).lp (lid (loopAt Tryz.f126 0)) = some A → LoopOk (e126 N d) N (loopAt Tryz.f126 0) A :=
  loopOk_of (A := ⟨⟨.normal, [0, 1, 2, 4], [.one .ref, .one (.int .i64), .one (.int .i64), .one .ref], [], []⟩, [⟨.ret, [], [], [], []⟩], L126_0 N (F126 N d)⟩) (by kernel_rfl) (fun _ => rfl) (fun _ _ => by kernel_rfl)
theorem fine126 (N d : Nat) : Fine (e126 N d) N 126 Tryz.f126 ks126 rs126 (F126 N (d + 1)) :=
  ⟨Tryz.func126, by kernel_rfl, by kernel_rfl, by kernel_rfl, loops_of ⟨l126_0 N d, trivial⟩, by kernel_rfl, by kernel_rfl, fun _ => by kernel_rfl⟩
theorem gd126 (N : Nat) : ∀ d, CalOk Tryz.prog 126 (.full (mkFun ks126 rs126 (F126 N d)))
  | 0 => fun vs h s he => by obtain ⟨t, _, he⟩ := Option.bind_eq_some_iff.1 he; cases he
  | d + 1 => mkFun_good (fine126 N d) (good_of ⟨gdg153 N, trivial⟩)
theorem good126 (N d : Nat) : Go.L.Good (e126 N d) := good_of ⟨gdg153 N, trivial⟩

/-! ### 81: api.Tie] -/
def F81 (N : Nat) : V × V × H → Option (H)
 | (a0, a1, h) =>
 (slen a0).bind fun n1 =>
 (F127 100 ((IntKind.u64.wrap n1), [])).bind fun (x2, _) =>
 (F126 N N (a0, 0, n1, x2, a1, h)).bind fun h3 =>
 some h3
abbrev ks81 : List SK := [.one .ref, .one .ref]
abbrev rs81 : List SK := []
def e81 (N : Nat) : Env := ⟨Tryz.prog, 14, inTab [], inTab [], natTab [], inTab [], calTab [(127, .pure (mkP ks127 rs127 (F127 100))), (126, .full (mkFun ks126 rs126 (F126 N N)))], altTab [], loopTab [], natTab [], inTab []⟩
theorem fine81 (N : Nat) : Fine (e81 N) N 81 Tryz.f81 ks81 rs81 (F81 N) :=
  ⟨Tryz.func81, by kernel_rfl, by kernel_rfl, by kernel_rfl, loops_of trivial, by kernel_rfl, by kernel_rfl, fun _ => by kernel_rfl⟩
theorem good81 (N : Nat) : Go.L.Good (e81 N) := good_of ⟨gd127, ⟨gd126 N N, trivial⟩⟩
theorem gd81 (N : Nat) : CalOk Tryz.prog 81 (.full (mkFun ks81 rs81 (F81 N))) := mkFun_good (fine81 N) (good81 N)

/-! ### 194: slices.insertionSortOrdered[int] -/
def L194_0 (N : Nat) : Nat → Int × Int × H → Option (H)
 | 0, _ => none
 | n + 1, (x4, x5, h6) =>
 (if (decide (x5 < x4)) = true then (
 none)
 else (
 some h6))
def F194 (N : Nat) : V × Int × Int × H → Option (H)
 | (a0, a1, a2, h) =>
 (L194_0 N N (a2, (IntKind.i64.wrap (a1 + 1)), h)).bind fun h7 =>
 some h7
abbrev ks194 : List SK := [.one .ref, .one (.int .i64), .one (.int .i64)]
abbrev rs194 : List SK := []
def e194 (N : Nat) : Env := ⟨Tryz.prog, 49, inTab [], inTab [], natTab [], inTab [], calTab [], altTab [], loopTab [(1, ⟨⟨.normal, [2, 6], [.one (.int .i64), .one (.int .i64)], [], []⟩, [⟨(.exit 0), [], [], [], []⟩], L194_0 N⟩)], natTab [], inTab [2, 3, 4, 5, 6]⟩
theorem l194_0 (N : Nat) : ∀ A, (e194 N).lp (lid (loopAt Tryz.f194 0)) = some A → LoopOk (e194 N) N (loopAt Tryz.f194 0) A :=
  loopOk_of (A := ⟨⟨.normal, [2, 6], [.one (.int .i64), .one (.int .i64)], [], []⟩, [⟨(.exit 0), [], [], [], []⟩], L194_0 N⟩) (by kernel_rfl) (fun _ => rfl) (fun _ _ => by kernel_rfl)
theorem lv194_1 (N : Nat) : ∀ A, (e194 N).lp (lid (loopAt Tryz.f194 1)) = some A → LoopOk (e194 N) N (loopAt Tryz.f194 1) A := fun A h => by
 rw [show (e194 N).lp (lid (loopAt Tryz.f194 1)) = none by kernel_rfl] at h; cases h
theorem fine194 (N : Nat) : Fine (e194 N) N 194 Tryz.f194 ks194 rs194 (F194 N) :=
  ⟨Tryz.func194, by kernel_rfl, by kernel_rfl, by kernel_rfl, loops_of ⟨l194_0 N, ⟨lv194_1 N, trivial⟩⟩, by kernel_rfl, by kernel_rfl, fun _ => by kernel_rfl⟩
theorem good194 (N : Nat) : Go.L.Good (e194 N) := good_of trivial
theorem gdg194 (N : Nat) : CalOk Tryz.prog 194 (.gro (mkFun ks194 rs194 (F194 N))) := mkFun_groC (fine194 N) (good194 N) (by kernel_rfl)

/-! ### 163: slices.pdqsortOrdered[int] -/
def L163_0 (N : Nat) (rec : V × Int × Int × Int × H → Option (H)) : Nat → V × Int × Int × H → Option (H)
 | 0, _ => none
 | n + 1, (x6, x7, x8, h9) =>
 (if (decide ((IntKind.i64.wrap (x8 - x7)) ≤ 12)) = true then (
 (F194 N (x6, x7, x8, h9)).bind fun h10 =>
 some h10)
 else (
 none))
def F163 (N : Nat) : Nat → V × Int × Int × Int × H → Option (H)
 | 0, _ => none
 | d + 1, (a0, a1, a2, a3, h) =>
 (L163_0 N (F163 N d) N (a0, a1, a2, h)).bind fun h11 =>
 some h11
abbrev ks163 : List SK := [.one .ref, .one (.int .i64), .one (.int .i64), .one (.int .i64)]
abbrev rs163 : List SK := []
def e163 (N d : Nat) : Env := ⟨Tryz.prog, 134, inTab [], inTab [], natTab [], inTab [], calTab [(194, .gro (mkFun ks194 rs194 (F194 N)))], altTab [], loopTab [(2, ⟨⟨.normal, [0, 1, 2], [.one .ref, .one (.int .i64), .one (.int .i64)], [], []⟩, [⟨.ret, [], [], [], []⟩], L163_0 N (F163 N d)⟩)], natTab [], inTab [5, 6, 7, 8, 9, 10, 11, 12, 13, 14, 15, 16, 17, 18, 19, 20, 21, 22, 23, 24, 25, 26, 27, 28, 29, 30]⟩
theorem l163_0 (N d : Nat) : ∀ A, (e163 N d).lp (lid (loopAt Tryz.f163 0)) = some A → LoopOk (e163 N d) N (loopAt Tryz.f163 0) A :=
  loopOk_of (A := ⟨⟨.normal, [0, 1, 2], [.one .ref, .one (.int .i64), .one (.int .i64)], [], []⟩, [⟨.ret, [], [], [], []⟩], L163_0 N (F163 N d)⟩) (by kernel_rfl) (fun _ => rfl) (fun _ _ => by kernel_rfl)
theorem fine163 (N d : Nat) : Fine (e163 N d) N 163 Tryz.f163 ks163 rs163 (F163 N (d + 1)) :=
  ⟨Tryz.func163, by kernel_rfl, by kernel_rfl, by kernel_rfl, loops_of ⟨l163_0 N d, trivial⟩, by kernel_rfl, by kernel_rfl, fun _ => by kernel_rfl⟩
theorem gd163 (N : Nat) : ∀ d, CalOk Tryz.prog 163 (.full (mkFun ks163 rs163 (F163 N d)))
  | 0 => fun vs h s he => by obtain ⟨t, _, he⟩ := Option.bind_eq_some_iff.1 he; cases he
  | d + 1 => mkFun_good (fine163 N d) (good_of ⟨gdg194 N, trivial⟩)
theorem good163 (N d : Nat) : Go.L.Good (e163 N d) := good_of ⟨gdg194 N, trivial⟩

/-! ### 128: slices.Sort[[]int,int] -/
def F128 (N : Nat) : V × H → Option (H)
 | (a0, h) =>
 (slen a0).bind fun n1 =>
 (F127 100 ((IntKind.u64.wrap n1), [])).bind fun (x2, _) =>
 (F163 N N (a0, 0, n1, x2, h)).bind fun h3 =>
 some h3
abbrev ks128 : List SK := [.one .ref]
abbrev rs128 : List SK := []
def e128 (N : Nat) : Env := ⟨Tryz.prog, 11, inTab [], inTab [], natTab [], inTab [], calTab [(127, .pure (mkP ks127 rs127 (F127 100))), (163, .full (mkFun ks163 rs163 (F163 N N)))], altTab [], loopTab [], natTab [], inTab []⟩
theorem fine128 (N : Nat) : Fine (e128 N) N 128 Tryz.f128 ks128 rs128 (F128 N) :=
  ⟨Tryz.func128, by kernel_rfl, by kernel_rfl, by kernel_rfl, loops_of trivial, by kernel_rfl, by kernel_rfl, fun _ => by kernel_rfl⟩
theorem good128 (N : Nat) : Go.L.Good (e128 N) := good_of ⟨gd127, ⟨gd163 N N, trivial⟩⟩
theorem gd128 (N : Nat) : CalOk Tryz.prog 128 (.full (mkFun ks128 rs128 (F128 N))) := mkFun_good (fine128 N) (good128 N)

/-! ### 85: tie.Ties).refs -/
def L85_0 (N : Nat) : Nat → V × V × H → Option (V × H)
 | 0, _ => none
 | n + 1, (x11, x12, h13) =>
 (hnext h13 x12).bind fun (b14, k15, v16, h17) =>
 (if b14 = true then (
 (if true = true then (
 none)
 else (
 some (x11, h17))))
 else (
 (if false = true then (
 none)
 else (
 some (x11, h17)))))
def F85 (N : Nat) : V × V × H → Option (V × H)
 | (a0, a1, h) =>
 (nck a0).bind fun _ =>
 ((rd h (padd a0 1) 0)).bind fun x1 =>
 (hrange h x1).bind fun o2 =>
 (some (h ++ [o2]) : Option H).bind fun h3 =>
 (L85_0 N N (.nils, (.ptr (h).length 0 0), h3)).bind fun (x18, h19) =>
 (F128 N (x18, h19)).bind fun h20 =>
 some (x18, h20)
abbrev ks85 : List SK := [.one .ref, .one .ref]
abbrev rs85 : List SK := [.one .ref]
def e85 (N : Nat) : Env := ⟨Tryz.prog, 28, inTab [7, 23], inTab [], natTab [(7, 7)], inTab [], calTab [(128, .full (mkFun ks128 rs128 (F128 N)))], altTab [], loopTab [(3, ⟨⟨.normal, [5, 12], [.one .ref, .one .ref], [], []⟩, [⟨(.exit 0), [5], [.one .ref], [], []⟩], L85_0 N⟩)], natTab [(15, 202)], inTab [4, 5, 6]⟩
theorem l85_0 (N : Nat) : ∀ A, (e85 N).lp (lid (loopAt Tryz.f85 0)) = some A → LoopOk (e85 N) N (loopAt Tryz.f85 0) A :=
  loopOk_of (A := ⟨⟨.normal, [5, 12], [.one .ref, .one .ref], [], []⟩, [⟨(.exit 0), [5], [.one .ref], [], []⟩], L85_0 N⟩) (by kernel_rfl) (fun _ => rfl) (fun _ _ => by kernel_rfl)
theorem fine85 (N : Nat) : Fine (e85 N) N 85 Tryz.f85 ks85 rs85 (F85 N) :=
  ⟨Tryz.func85, by kernel_rfl, by kernel_rfl, by kernel_rfl, loops_of ⟨l85_0 N, trivial⟩, by kernel_rfl, by kernel_rfl, fun _ => by kernel_rfl⟩
theorem good85 (N : Nat) : Go.L.Good (e85 N) := good_of ⟨gd128 N, trivial⟩
theorem gd85 (N : Nat) : CalOk Tryz.prog 85 (.full (mkFun ks85 rs85 (F85 N))) := mkFun_good (fine85 N) (good85 N)

/-! ### 84: tie.Ties).told -/
def L84_0 (N : Nat) : Nat → V × Int × Int × H → Option (V × H)
 | 0, _ => none
 | n + 1, (x6, x7, x8, h9) =>
 (if (decide (x8 < x7)) = true then (
 none)
 else (
 some (x6, h9)))
def F84 (N : Nat) : V × V × H → Option (V × H)
 | (a0, a1, h) =>
 (slen a1).bind fun n1 =>
 (L84_0 N N (.nils, n1, 0, h)).bind fun (x10, h11) =>
 some (x10, h11)
abbrev ks84 : List SK := [.one .ref, .one .ref]
abbrev rs84 : List SK := [.one .ref]
def e84 (N : Nat) : Env := ⟨Tryz.prog, 32, inTab [8, 28], inTab [], natTab [(8, 8), (23, 8), (25, 8)], inTab [], calTab [], altTab [], loopTab [(3, ⟨⟨.normal, [5, 10, 11], [.one .ref, .one (.int .i64), .one (.int .i64)], [], []⟩, [⟨(.exit 0), [5], [.one .ref], [], []⟩], L84_0 N⟩)], natTab [], inTab [4, 5, 6, 7]⟩
theorem l84_0 (N : Nat) : ∀ A, (e84 N).lp (lid (loopAt Tryz.f84 0)) = some A → LoopOk (e84 N) N (loopAt Tryz.f84 0) A :=
  loopOk_of (A := ⟨⟨.normal, [5, 10, 11], [.one .ref, .one (.int .i64), .one (.int .i64)], [], []⟩, [⟨(.exit 0), [5], [.one .ref], [], []⟩], L84_0 N⟩) (by kernel_rfl) (fun _ => rfl) (fun _ _ => by kernel_rfl)
theorem fine84 (N : Nat) : Fine (e84 N) N 84 Tryz.f84 ks84 rs84 (F84 N) :=
  ⟨Tryz.func84, by kernel_rfl, by kernel_rfl, by kernel_rfl, loops_of ⟨l84_0 N, trivial⟩, by kernel_rfl, by kernel_rfl, fun _ => by kernel_rfl⟩
theorem good84 (N : Nat) : Go.L.Good (e84 N) := good_of trivial
theorem gd84 (N : Nat) : CalOk Tryz.prog 84 (.ro (mkFun ks84 rs84 (F84 N))) := mkFun_ro (fine84 N) (good84 N) (by kernel_rfl)

/-! ### 40: tie.Ties).All -/
def L40_0 (N : Nat) : Nat → V × V × V × H → Option (V × V × H)
 | 0, _ => none
 | n + 1, (x13, x14, x15, h16) =>
 (hnext h16 x15).bind fun (b17, k18, v19, h20) =>
 (if b17 = true then (
 (if true = true then (
 none)
 else (
 some (x13, x14, h20))))
 else (
 (if false = true then (
 none)
 else (
 some (x13, x14, h20)))))
def F40 (N : Nat) : V × H → Option (V × H)
 | (a0, h) =>
 (F80 N (a0, h)).bind fun (x1, _) =>
 (if (!x1) = true then (
 none)
 else (
 (nck a0).bind fun _ =>
 ((rd h (padd a0 0) 0)).bind fun x2 =>
 (hrange h x2).bind fun o3 =>
 (some (h ++ [o3]) : Option H).bind fun h4 =>
 (L40_0 N N (a0, .nils, (.ptr (h).length 0 0), h4)).bind fun (x21, x22, h23) =>
 (F81 N (x22, (.fn 82 []), h23)).bind fun h24 =>
 (F85 N (x21, (.fn 86 []), h24)).bind fun (x25, h26) =>
 (F84 N (x21, x25, h26)).bind fun (x27, _) =>
 (scells h26 x27 5).bind fun cs30 =>
 (happ h26 x22 5 (snlen x27) cs30).bind fun (v28, h29) =>
 some (v28, h29)))
abbrev ks40 : List SK := [.one .ref]
abbrev rs40 : List SK := [.one .ref]
def e40 (N : Nat) : Env := ⟨Tryz.prog, 33, inTab [4, 23], inTab [], natTab [(4, 4), (18, 4), (20, 4)], inTab [], calTab [(80, .ro (mkFun ks80 rs80 (F80 N))), (81, .full (mkFun ks81 rs81 (F81 N))), (85, .full (mkFun ks85 rs85 (F85 N))), (84, .ro (mkFun ks84 rs84 (F84 N)))], altTab [], loopTab [(5, ⟨⟨.normal, [0, 3, 12], [.one .ref, .one .ref, .one .ref], [], []⟩, [⟨(.exit 0), [0, 3], [.one .ref, .one .ref], [], []⟩], L40_0 N⟩)], natTab [(15, 201)], inTab [2, 6, 7]⟩
theorem l40_0 (N : Nat) : ∀ A, (e40 N).lp (lid (loopAt Tryz.f40 0)) = some A → LoopOk (e40 N) N (loopAt Tryz.f40 0) A :=
  loopOk_of (A := ⟨⟨.normal, [0, 3, 12], [.one .ref, .one .ref, .one .ref], [], []⟩, [⟨(.exit 0), [0, 3], [.one .ref, .one .ref], [], []⟩], L40_0 N⟩) (by kernel_rfl) (fun _ => rfl) (fun _ _ => by kernel_rfl)
theorem fine40 (N : Nat) : Fine (e40 N) N 40 Tryz.f40 ks40 rs40 (F40 N) :=
  ⟨Tryz.func40, by kernel_rfl, by kernel_rfl, by kernel_rfl, loops_of ⟨l40_0 N, trivial⟩, by kernel_rfl, by kernel_rfl, fun _ => by kernel_rfl⟩
theorem good40 (N : Nat) : Go.L.Good (e40 N) := good_of ⟨gd80 N, ⟨gd81 N, ⟨gd85 N, ⟨gd84 N, trivial⟩⟩⟩⟩
theorem gd40 (N : Nat) : CalOk Tryz.prog 40 (.full (mkFun ks40 rs40 (F40 N))) := mkFun_good (fine40 N) (good40 N)
theorem gl40 (N : Nat) : CalOk Tryz.prog 40 (.gro (mkFun ks40 rs40 (locF true ks40 rs40 (F40 N)))) := loc_gro (gd40 N)

/-! ### 41: api.Out] -/
def F41 (N : Nat) : V × H → Option (V × H)
 | (a0, h) =>
 (isNilS a0).bind fun b1 =>
 (if b1 = true then (
 some (.nils, h))
 else (
 none))
abbrev ks41 : List SK := [.one .ref]
abbrev rs41 : List SK := [.one .ref]
def e41 (N : Nat) : Env := ⟨Tryz.prog, 8, inTab [], inTab [], natTab [], inTab [], calTab [], altTab [], loopTab [], natTab [], inTab [3]⟩
theorem fine41 (N : Nat) : Fine (e41 N) N 41 Tryz.f41 ks41 rs41 (F41 N) :=
  ⟨Tryz.func41, by kernel_rfl, by kernel_rfl, by kernel_rfl, loops_of trivial, by kernel_rfl, by kernel_rfl, fun _ => by kernel_rfl⟩
theorem good41 (N : Nat) : Go.L.Good (e41 N) := good_of trivial
theorem gd41 (N : Nat) : CalOk Tryz.prog 41 (.full (mkFun ks41 rs41 (F41 N))) := mkFun_good (fine41 N) (good41 N)
theorem gl41 (N : Nat) : CalOk Tryz.prog 41 (.gro (mkFun ks41 rs41 (locF true ks41 rs41 (F41 N)))) := loc_gro (gd41 N)


end
end Go.Proofs.YtgipaccfnlklcaaGreatDoor
