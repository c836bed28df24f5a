/- The functions that the laws reach, as plain ones (printed by gen.py). -/
import Derived.Test.YtkhnngghmlpbeaaGreatL39
import Derived.Test.YtkhnngghmlpbeaaGreatChecked
import Derived.KernelRfl
set_option linter.unusedVariables false
set_option maxRecDepth 100000
namespace Go.Proofs.YtkhnngghmlpbeaaGreat
open Go.L

/-! ### 49: frame.Stack).lives -/
noncomputable def F49 (N : Nat) : V × H → Option (Bool × H)
  | (a0, h) =>
    (isNil a0).bind fun b1 =>
    (if (!b1) = true then (
    (nck a0).bind fun _ =>
    (L.asBool (rd h (padd a0 0) 0)).bind fun x4 =>
    some (x4, h))
    else (
    some (false, h))).bind fun (b2, h3) =>
    some (b2, h3)
abbrev ks49 : List SK := [.one .ref]
abbrev rs49 : List SK := [.one .bool]
noncomputable def e49 (N : Nat) : Env := ⟨Tryz.prog, 11, inTab [], inTab [], natTab [], inTab [], calTab [], altTab [], loopTab [], natTab []⟩
theorem fine49 (N : Nat) : Fine (e49 N) N 49 Tryz.f49 ks49 rs49 (F49 N) :=
  ⟨Tryz.func49, by kernel_rfl, by kernel_rfl, by kernel_rfl, loops_of trivial, by kernel_rfl, by kernel_rfl, fun _ => by kernel_rfl⟩
theorem good49 (N : Nat) : Go.L.Good (e49 N) := good_of trivial
theorem gd49 (N : Nat) : CalOk Tryz.prog 49 (.ro (mkFun ks49 rs49 (F49 N))) := mkFun_ro (fine49 N) (good49 N) (by kernel_rfl)

/-! ### 75: api.Term] -/
noncomputable def F75 (N : Nat) : V × H → Option (V × H)
  | (a0, h) =>
    (isNilS a0).bind fun b1 =>
    (if b1 = true then (
    some (.nils, h))
    else (
    (some (h ++ [O.cells 0 []]) : Option H).bind fun h2 =>
    (scells h2 a0 7).bind fun cs5 =>
    (happ h2 (.sl (h).length 0 0 0 7 (some 0)) 7 (snlen a0) cs5).bind fun (v3, h4) =>
    some (v3, h4)))
abbrev ks75 : List SK := [.one .ref]
abbrev rs75 : List SK := [.one .ref]
noncomputable def e75 (N : Nat) : Env := ⟨Tryz.prog, 8, inTab [], inTab [], natTab [], inTab [], calTab [], altTab [], loopTab [], natTab []⟩
theorem fine75 (N : Nat) : Fine (e75 N) N 75 Tryz.f75 ks75 rs75 (F75 N) :=
  ⟨Tryz.func75, by kernel_rfl, by kernel_rfl, by kernel_rfl, loops_of trivial, by kernel_rfl, by kernel_rfl, fun _ => by kernel_rfl⟩
theorem good75 (N : Nat) : Go.L.Good (e75 N) := good_of trivial
theorem gd75 (N : Nat) : CalOk Tryz.prog 75 (.full (mkFun ks75 rs75 (F75 N))) := mkFun_good (fine75 N) (good75 N)

/-! ### 42: frame.Stack).Copy -/
noncomputable def L42_0 (N : Nat) : Nat → V × V × Int × Int × H → Option (V × H)
  | 0, _ => none
  | n + 1, (x24, x25, x26, x27, h28) =>
    (if (decide (x27 < x26)) = true then (
    (sidx x25 x27 4).bind fun q29 =>
    (L.asInt .i64 (rd h28 q29 0)).bind fun x30 =>
    (L.asInt .i64 (rd h28 q29 1)).bind fun x31 =>
    ((rd h28 q29 2)).bind fun x32 =>
    (L.asInt .i64 (rd h28 q29 3)).bind fun x33 =>
    (F75 N (x32, h28)).bind fun (x34, h35) =>
    (ck1 x34).bind fun _ =>
    (nck x24).bind fun _ =>
    ((rd h35 (padd x24 1) 0)).bind fun x36 =>
    (happ h35 x36 4 1 [(.int .i64 x30), (.int .i64 x31), x34, (.int .i64 x33)]).bind fun (v37, h38) =>
    (nck x24).bind fun _ =>
    (ck1 v37).bind fun _ =>
    (wr h38 (padd x24 1) [v37]).bind fun h39 =>
    L42_0 N n (x24, x25, x26, (IntKind.i64.wrap (x27 + 1)), h39))
    else (
    some (x24, h28)))
noncomputable def F42 (N : Nat) : V × H → Option (V × H)
  | (a0, h) =>
    (F49 N (a0, h)).bind fun (x1, _) =>
    (if (!x1) = true then (
    some (.nilp, h))
    else (
    (nck a0).bind fun _ =>
    ((rd h (padd a0 2) 0)).bind fun x2 =>
    (F75 N (x2, h)).bind fun (x3, h4) =>
    (ck1 x3).bind fun _ =>
    (some (h4 ++ [O.cells 0 [(.bool true), .nils, x3]]) : Option H).bind fun h5 =>
    (nck a0).bind fun _ =>
    ((rd h5 (padd a0 1) 0)).bind fun x6 =>
    (slen x6).bind fun n7 =>
    (L42_0 N N ((.ptr (h4).length 0 0), x6, n7, 0, h5)).bind fun (x40, h41) =>
    some (x40, h41)))
abbrev ks42 : List SK := [.one .ref]
abbrev rs42 : List SK := [.one .ref]
noncomputable def e42 (N : Nat) : Env := ⟨Tryz.prog, 41, inTab [5, 35], inTab [], natTab [(5, 5), (25, 5), (28, 5)], inTab [], calTab [(49, .ro (mkFun ks49 rs49 (F49 N))), (75, .full (mkFun ks75 rs75 (F75 N)))], altTab [], loopTab [(5, ⟨⟨.normal, [3, 19, 20, 21], [.one .ref, .one .ref, .one (.int .i64), .one (.int .i64)], [], []⟩, [⟨(.exit 0), [3], [.one .ref], [], []⟩], L42_0 N⟩)], natTab []⟩
theorem l42_0 (N : Nat) : ∀ A, (e42 N).lp (lid (loopAt Tryz.f42 0)) = some A → LoopOk (e42 N) N (loopAt Tryz.f42 0) A :=
  loopOk_of (A := ⟨⟨.normal, [3, 19, 20, 21], [.one .ref, .one .ref, .one (.int .i64), .one (.int .i64)], [], []⟩, [⟨(.exit 0), [3], [.one .ref], [], []⟩], L42_0 N⟩) (by kernel_rfl) (fun _ => rfl) (fun _ _ => by kernel_rfl)
theorem fine42 (N : Nat) : Fine (e42 N) N 42 Tryz.f42 ks42 rs42 (F42 N) :=
  ⟨Tryz.func42, by kernel_rfl, by kernel_rfl, by kernel_rfl, loops_of ⟨l42_0 N, trivial⟩, by kernel_rfl, by kernel_rfl, fun _ => by kernel_rfl⟩
theorem good42 (N : Nat) : Go.L.Good (e42 N) := good_of ⟨gd49 N, ⟨gd75 N, trivial⟩⟩
theorem gd42 (N : Nat) : CalOk Tryz.prog 42 (.full (mkFun ks42 rs42 (F42 N))) := mkFun_good (fine42 N) (good42 N)

/-! ### 50: frame.Stack).last -/
noncomputable def F50 (N : Nat) : V × H → Option (V × H)
  | (a0, h) =>
    (F49 N (a0, h)).bind fun (x1, _) =>
    (if (!x1) = true then (
    some (true, h))
    else (
    (nck a0).bind fun _ =>
    ((rd h (padd a0 1) 0)).bind fun x4 =>
    (slen x4).bind fun n5 =>
    some ((n5 == 0), h))).bind fun (b2, h3) =>
    (if b2 = true then (
    some (.nilp, h3))
    else (
    (nck a0).bind fun _ =>
    ((rd h3 (padd a0 1) 0)).bind fun x6 =>
    (nck a0).bind fun _ =>
    ((rd h3 (padd a0 1) 0)).bind fun x7 =>
    (slen x7).bind fun n8 =>
    (sidx x6 (IntKind.i64.wrap (n8 - 1)) 4).bind fun q9 =>
    some (q9, h3)))
abbrev ks50 : List SK := [.one .ref]
abbrev rs50 : List SK := [.one .ref]
noncomputable def e50 (N : Nat) : Env := ⟨Tryz.prog, 25, inTab [], inTab [], natTab [], inTab [], calTab [(49, .ro (mkFun ks49 rs49 (F49 N)))], altTab [], loopTab [], natTab []⟩
theorem fine50 (N : Nat) : Fine (e50 N) N 50 Tryz.f50 ks50 rs50 (F50 N) :=
  ⟨Tryz.func50, by kernel_rfl, by kernel_rfl, by kernel_rfl, loops_of trivial, by kernel_rfl, by kernel_rfl, fun _ => by kernel_rfl⟩
theorem good50 (N : Nat) : Go.L.Good (e50 N) := good_of ⟨gd49 N, trivial⟩
theorem gd50 (N : Nat) : CalOk Tryz.prog 50 (.ro (mkFun ks50 rs50 (F50 N))) := mkFun_ro (fine50 N) (good50 N) (by kernel_rfl)

/-! ### 59: frame.Stack).height -/
noncomputable def F59 (N : Nat) : V × H → Option (Int × H)
  | (a0, h) =>
    (F50 N (a0, h)).bind fun (x1, _) =>
    (isNil x1).bind fun b2 =>
    (if (!b2) = true then (
    (nck a0).bind fun _ =>
    ((rd h (padd a0 2) 0)).bind fun x3 =>
    (slen x3).bind fun n4 =>
    (nck x1).bind fun _ =>
    (L.asInt .i64 (rd h (padd x1 3) 0)).bind fun x5 =>
    some ((IntKind.i64.wrap (n4 - x5)), h))
    else (
    (nck a0).bind fun _ =>
    ((rd h (padd a0 2) 0)).bind fun x6 =>
    (slen x6).bind fun n7 =>
    some (n7, h)))
abbrev ks59 : List SK := [.one .ref]
abbrev rs59 : List SK := [.one (.int .i64)]
noncomputable def e59 (N : Nat) : Env := ⟨Tryz.prog, 23, inTab [], inTab [], natTab [], inTab [], calTab [(50, .ro (mkFun ks50 rs50 (F50 N)))], altTab [], loopTab [], natTab []⟩
theorem fine59 (N : Nat) : Fine (e59 N) N 59 Tryz.f59 ks59 rs59 (F59 N) :=
  ⟨Tryz.func59, by kernel_rfl, by kernel_rfl, by kernel_rfl, loops_of trivial, by kernel_rfl, by kernel_rfl, fun _ => by kernel_rfl⟩
theorem good59 (N : Nat) : Go.L.Good (e59 N) := good_of ⟨gd50 N, trivial⟩
theorem gd59 (N : Nat) : CalOk Tryz.prog 59 (.ro (mkFun ks59 rs59 (F59 N))) := mkFun_ro (fine59 N) (good59 N) (by kernel_rfl)

/-! ### 34: frame.Stack).Peek -/
noncomputable def F34 (N : Nat) : V × Int × H → Option (Int × Int × (Nat × Nat) × ByteArray × Int × Int × V × Int × H)
  | (a0, a1, h) =>
    (F49 N (a0, h)).bind fun (x1, _) =>
    (if (!x1) = true then (
    some (true, h))
    else (
    some ((decide (a1 < 0)), h))).bind fun (b2, h3) =>
    (if b2 = true then (
    some (0, 0, (0, 0), (ByteArray.mk #[]), 0, 0, .nils, 1, h3))
    else (
    (F59 N (a0, h3)).bind fun (x4, _) =>
    (if (decide (a1 ≥ x4)) = true then (
    some (0, 0, (0, 0), (ByteArray.mk #[]), 0, 0, .nils, 92, h3))
    else (
    (nck a0).bind fun _ =>
    ((rd h3 (padd a0 2) 0)).bind fun x5 =>
    (nck a0).bind fun _ =>
    ((rd h3 (padd a0 2) 0)).bind fun x6 =>
    (slen x6).bind fun n7 =>
    (sidx x5 (IntKind.i64.wrap ((IntKind.i64.wrap (n7 - 1)) - a1)) 7).bind fun q8 =>
    (L.asInt .i64 (rd h3 q8 0)).bind fun x9 =>
    (L.asInt .i64 (rd h3 q8 1)).bind fun x10 =>
    (L.asCplx .f64 (rd h3 q8 2)).bind fun x11 =>
    (L.asStr (rd h3 q8 3)).bind fun x12 =>
    (L.asInt .i64 (rd h3 q8 4)).bind fun x13 =>
    (L.asInt .i64 (rd h3 q8 5)).bind fun x14 =>
    ((rd h3 q8 6)).bind fun x15 =>
    some (x9, x10, (x11.1, x11.2), x12, x13, x14, x15, 0, h3)))))
abbrev ks34 : List SK := [.one .ref, .one (.int .i64)]
abbrev rs34 : List SK := [.agg [(.int .i64), (.int .i64), (.cplx .f64), .str, (.int .i64), (.int .i64), .ref], .one (.int .i64)]
noncomputable def e34 (N : Nat) : Env := ⟨Tryz.prog, 33, inTab [4], inTab [], natTab [(4, 4)], inTab [], calTab [(49, .ro (mkFun ks49 rs49 (F49 N))), (59, .ro (mkFun ks59 rs59 (F59 N)))], altTab [], loopTab [], natTab []⟩
theorem fine34 (N : Nat) : Fine (e34 N) N 34 Tryz.f34 ks34 rs34 (F34 N) :=
  ⟨Tryz.func34, by kernel_rfl, by kernel_rfl, by kernel_rfl, loops_of trivial, by kernel_rfl, by kernel_rfl, fun _ => by kernel_rfl⟩
theorem good34 (N : Nat) : Go.L.Good (e34 N) := good_of ⟨gd49 N, ⟨gd59 N, trivial⟩⟩
theorem gd34 (N : Nat) : CalOk Tryz.prog 34 (.ro (mkFun ks34 rs34 (F34 N))) := mkFun_ro (fine34 N) (good34 N) (by kernel_rfl)

/-! ### 45: frame.Stack).Pop -/
noncomputable def F45 (N : Nat) : V × H → Option (Int × Int × (Nat × Nat) × ByteArray × Int × Int × V × Int × H)
  | (a0, h) =>
    (F34 N (a0, 0, h)).bind fun (x1, x2, x3, x4, x5, x6, x7, x8, _) =>
    ((if (x8 == 0) = true then (
    (nck a0).bind fun _ =>
    ((rd h (padd a0 2) 0)).bind fun x9 =>
    (nck a0).bind fun _ =>
    ((rd h (padd a0 2) 0)).bind fun x10 =>
    (slen x10).bind fun n11 =>
    (slen x9).bind fun n12 =>
    (ssl 7 x9 0 (IntKind.i64.wrap (n11 - 1))).bind fun v13 =>
    (nck a0).bind fun _ =>
    (ck1 v13).bind fun _ =>
    (wr h (padd a0 2) [v13]).bind fun h14 =>
    some (x8, 0, 0, (0, 0), (ByteArray.mk #[]), 0, 0, .nils, x1, x2, (x3.1, x3.2), x4, x5, x6, x7, h14))
    else (
    some (x8, 0, 0, (0, 0), (ByteArray.mk #[]), 0, 0, .nils, x1, x2, (x3.1, x3.2), x4, x5, x6, x7, h))) : Option (Int × Int × Int × (Nat × Nat) × ByteArray × Int × Int × V × Int × Int × (Nat × Nat) × ByteArray × Int × Int × V × H)).bind fun (x15, x16, x17, x18, x19, x20, x21, x22, x23, x24, x25, x26, x27, x28, x29, h30) =>
    some (x23, x24, (x25.1, x25.2), x26, x27, x28, x29, x15, h30)
abbrev ks45 : List SK := [.one .ref]
abbrev rs45 : List SK := [.agg [(.int .i64), (.int .i64), (.cplx .f64), .str, (.int .i64), (.int .i64), .ref], .one (.int .i64)]
noncomputable def e45 (N : Nat) : Env := ⟨Tryz.prog, 29, inTab [2, 4], inTab [], natTab [(2, 2), (4, 4)], inTab [], calTab [(34, .ro (mkFun ks34 rs34 (F34 N)))], altTab [(196620, [⟨.normal, [2, 4, 5], [.lp 2 0, .lp 4 0, .one (.int .i64)], [2, 4], [.cells [(.int .i64), (.int .i64), (.cplx .f64), .str, (.int .i64), (.int .i64), .ref], .cells [(.int .i64), (.int .i64), (.cplx .f64), .str, (.int .i64), (.int .i64), .ref]]⟩])], loopTab [], natTab []⟩
theorem fine45 (N : Nat) : Fine (e45 N) N 45 Tryz.f45 ks45 rs45 (F45 N) :=
  ⟨Tryz.func45, by kernel_rfl, by kernel_rfl, by kernel_rfl, loops_of trivial, by kernel_rfl, by kernel_rfl, fun _ => by kernel_rfl⟩
theorem good45 (N : Nat) : Go.L.Good (e45 N) := good_of ⟨gd34 N, trivial⟩
theorem gd45 (N : Nat) : CalOk Tryz.prog 45 (.full (mkFun ks45 rs45 (F45 N))) := mkFun_good (fine45 N) (good45 N)

end Go.Proofs.YtkhnngghmlpbeaaGreat
