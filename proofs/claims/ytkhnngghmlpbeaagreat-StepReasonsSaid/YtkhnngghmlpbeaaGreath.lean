/- The functions that the laws reach, as plain ones (printed by gen.py). -/
import Derived.Test.YtkhnngghmlpbeaaGreatL39
import Derived.Test.YtkhnngghmlpbeaaGreatG
import Derived.Test.YtkhnngghmlpbeaaGreatChecked
import Derived.KernelRfl
set_option linter.unusedVariables false
set_option maxRecDepth 100000
namespace Go.Proofs.YtkhnngghmlpbeaaGreat
open Go.L

/-! ### 23: carouselref03.Int -/
noncomputable def F23 (N : Nat) : Int × H → Option (Int × Int × (Nat × Nat) × ByteArray × Int × Int × V × H)
  | (a0, h) =>
    some (3, a0, (0, 0), (ByteArray.mk #[]), 0, 0, .nils, h)
abbrev ks23 : List SK := [.one (.int .i64)]
abbrev rs23 : List SK := [.agg [(.int .i64), (.int .i64), (.cplx .f64), .str, (.int .i64), (.int .i64), .ref]]
noncomputable def e23 (N : Nat) : Env := ⟨Tryz.prog, 5, inTab [2], inTab [], natTab [(2, 2)], inTab [], calTab [], altTab [], loopTab [], natTab []⟩
theorem fine23 (N : Nat) : Fine (e23 N) N 23 Tryz.f23 ks23 rs23 (F23 N) :=
  ⟨Tryz.func23, by kernel_rfl, by kernel_rfl, by kernel_rfl, loops_of trivial, by kernel_rfl, by kernel_rfl, fun _ => by kernel_rfl⟩
theorem good23 (N : Nat) : Go.L.Good (e23 N) := good_of trivial
theorem gd23 (N : Nat) : CalOk Tryz.prog 23 (.ro (mkFun ks23 rs23 (F23 N))) := mkFun_ro (fine23 N) (good23 N) (by kernel_rfl)

/-! ### 6: carousellaw10.sum -/
noncomputable def F6 (N : Nat) : H → Option (ByteArray × V × H)
  | h =>
    (F23 N (1, h)).bind fun (x1, x2, x3, x4, x5, x6, x7, _) =>
    (F23 N (2, h)).bind fun (x8, x9, x10, x11, x12, x13, x14, _) =>
    (some (h ++ [O.cells 0 [(.int .i64 1), (.int .i64 0), (.int .i64 0), (.int .i64 x1), (.int .i64 x2), (.cplx .f64 x3.1 x3.2), (.str x4), (.int .i64 x5), (.int .i64 x6), x7, .nils, (.int .i64 1), (.int .i64 0), (.int .i64 0), (.int .i64 x8), (.int .i64 x9), (.cplx .f64 x10.1 x10.2), (.str x11), (.int .i64 x12), (.int .i64 x13), x14, .nils, (.int .i64 6), (.int .i64 0), (.int .i64 0), (.int .i64 0), (.int .i64 0), (.cplx .f64 0 0), (.str (ByteArray.mk #[])), (.int .i64 0), (.int .i64 0), .nils, .nils, (.int .i64 29), (.int .i64 0), (.int .i64 0), (.int .i64 0), (.int .i64 0), (.cplx .f64 0 0), (.str (ByteArray.mk #[])), (.int .i64 0), (.int .i64 0), .nils, .nils]]) : Option H).bind fun h15 =>
    (ck1 (.sl (h).length 0 0 4 11 (some 4))).bind fun _ =>
    (some (h15 ++ [O.cells 0 [(.str (ByteArray.mk #[102])), (.int .i64 0), (.int .i64 0), (.sl (h).length 0 0 4 11 (some 4))]]) : Option H).bind fun h16 =>
    (ck1 (.sl (h15).length 0 0 1 4 (some 1))).bind fun _ =>
    some ((ByteArray.mk #[109]), (.sl (h15).length 0 0 1 4 (some 1)), h16)
abbrev ks6 : List SK := []
abbrev rs6 : List SK := [.agg [.str, .ref]]
noncomputable def e6 (N : Nat) : Env := ⟨Tryz.prog, 11, inTab [0], inTab [], natTab [(0, 0)], inTab [], calTab [(23, .ro (mkFun ks23 rs23 (F23 N)))], altTab [], loopTab [], natTab []⟩
theorem fine6 (N : Nat) : Fine (e6 N) N 6 Tryz.f6 ks6 rs6 (F6 N) :=
  ⟨Tryz.func6, by kernel_rfl, by kernel_rfl, by kernel_rfl, loops_of trivial, by kernel_rfl, by kernel_rfl, fun _ => by kernel_rfl⟩
theorem good6 (N : Nat) : Go.L.Good (e6 N) := good_of ⟨gd23 N, trivial⟩
theorem gd6 (N : Nat) : CalOk Tryz.prog 6 (.full (mkFun ks6 rs6 (F6 N))) := mkFun_good (fine6 N) (good6 N)

/-! ### 24: step.given -/
noncomputable def F24 (N : Nat) : V × H → Option (Bool × H)
  | (a0, h) =>
    (F42 N (a0, h)).bind fun (x1, h2) =>
    (isNil x1).bind fun b3 =>
    some ((!b3), h2)
abbrev ks24 : List SK := [.one .ref]
abbrev rs24 : List SK := [.one .bool]
noncomputable def e24 (N : Nat) : Env := ⟨Tryz.prog, 6, inTab [], inTab [], natTab [], inTab [], calTab [(42, .gro (mkFun ks42 rs42 (F42 N)))], altTab [], loopTab [], natTab []⟩
theorem fine24 (N : Nat) : Fine (e24 N) N 24 Tryz.f24 ks24 rs24 (F24 N) :=
  ⟨Tryz.func24, by kernel_rfl, by kernel_rfl, by kernel_rfl, loops_of trivial, by kernel_rfl, by kernel_rfl, fun _ => by kernel_rfl⟩
theorem good24 (N : Nat) : Go.L.Good (e24 N) := good_of ⟨gdg42 N, trivial⟩
theorem gd24 (N : Nat) : CalOk Tryz.prog 24 (.full (mkFun ks24 rs24 (F24 N))) := mkFun_good (fine24 N) (good24 N)

/-! ### 41: frame.Stack).Top -/
noncomputable def F41 (N : Nat) : V × H → Option (Int × Int × Int × H)
  | (a0, h) =>
    (F49 N (a0, h)).bind fun (x1, _) =>
    (if (!x1) = true then (
    some (0, 0, 1, h))
    else (
    (F50 N (a0, h)).bind fun (x2, _) =>
    (isNil x2).bind fun b3 =>
    (if b3 = true then (
    some (0, 0, 92, h))
    else (
    (nck x2).bind fun _ =>
    (L.asInt .i64 (rd h (padd (padd x2 0) 0) 0)).bind fun x4 =>
    (nck x2).bind fun _ =>
    (L.asInt .i64 (rd h (padd (padd x2 0) 1) 0)).bind fun x5 =>
    some (x4, x5, 0, h)))))
abbrev ks41 : List SK := [.one .ref]
abbrev rs41 : List SK := [.one (.int .i64), .one (.int .i64), .one (.int .i64)]
noncomputable def e41 (N : Nat) : Env := ⟨Tryz.prog, 23, inTab [], inTab [], natTab [], inTab [], calTab [(49, .ro (mkFun ks49 rs49 (F49 N))), (50, .ro (mkFun ks50 rs50 (F50 N)))], altTab [], loopTab [], natTab []⟩
theorem fine41 (N : Nat) : Fine (e41 N) N 41 Tryz.f41 ks41 rs41 (F41 N) :=
  ⟨Tryz.func41, by kernel_rfl, by kernel_rfl, by kernel_rfl, loops_of trivial, by kernel_rfl, by kernel_rfl, fun _ => by kernel_rfl⟩
theorem good41 (N : Nat) : Go.L.Good (e41 N) := good_of ⟨gd49 N, ⟨gd50 N, trivial⟩⟩
theorem gd41 (N : Nat) : CalOk Tryz.prog 41 (.ro (mkFun ks41 rs41 (F41 N))) := mkFun_ro (fine41 N) (good41 N) (by kernel_rfl)

/-! ### 18: step.found -/
noncomputable def F18 (N : Nat) : ByteArray × V × V × H → Option (V × Int × H)
  | (a0_0, a0_1, a1, h) =>
    (F24 N (a1, h)).bind fun (x1, h2) =>
    (if (!x1) = true then (
    some (.nilp, 1, h2))
    else (
    (F41 N (a1, h2)).bind fun (x3, x4, x5, _) =>
    (if (x5 != 0) = true then (
    some (.nilp, 92, h2))
    else (
    (slen a0_1).bind fun n6 =>
    (if (decide (x3 ≥ n6)) = true then (
    some (true, h2))
    else (
    (sidx a0_1 x3 4).bind fun q9 =>
    ((rd h2 (padd q9 3) 0)).bind fun x10 =>
    (slen x10).bind fun n11 =>
    some ((decide (x4 ≥ n11)), h2))).bind fun (b7, h8) =>
    (if b7 = true then (
    some (.nilp, 3, h8))
    else (
    (sidx a0_1 x3 4).bind fun q12 =>
    (L.asStr (rd h8 q12 0)).bind fun x13 =>
    (L.asInt .i64 (rd h8 q12 1)).bind fun x14 =>
    (L.asInt .i64 (rd h8 q12 2)).bind fun x15 =>
    ((rd h8 q12 3)).bind fun x16 =>
    (sidx a0_1 x3 4).bind fun q17 =>
    ((rd h8 (padd q17 3) 0)).bind fun x18 =>
    (sidx x18 x4 11).bind fun q19 =>
    (L.asInt .i64 (rd h8 q19 0)).bind fun x20 =>
    (L.asInt .i64 (rd h8 q19 1)).bind fun x21 =>
    (L.asInt .i64 (rd h8 q19 2)).bind fun x22 =>
    (L.asInt .i64 (rd h8 q19 3)).bind fun x23 =>
    (L.asInt .i64 (rd h8 q19 4)).bind fun x24 =>
    (L.asCplx .f64 (rd h8 q19 5)).bind fun x25 =>
    (L.asStr (rd h8 q19 6)).bind fun x26 =>
    (L.asInt .i64 (rd h8 q19 7)).bind fun x27 =>
    (L.asInt .i64 (rd h8 q19 8)).bind fun x28 =>
    ((rd h8 q19 9)).bind fun x29 =>
    ((rd h8 q19 10)).bind fun x30 =>
    (F42 N (a1, h8)).bind fun (x31, h32) =>
    (ck1 x31).bind fun _ =>
    (some (h32 ++ [O.cells 0 [(.str a0_0), a0_1, (.str x13), (.int .i64 x14), (.int .i64 x15), x16, (.int .i64 x20), (.int .i64 x21), (.int .i64 x22), (.int .i64 x23), (.int .i64 x24), (.cplx .f64 x25.1 x25.2), (.str x26), (.int .i64 x27), (.int .i64 x28), x29, x30, x31, .nils, (.int .i64 1), (.int .i64 0), (.int .i64 0), (.cplx .f64 0 0), (.str (ByteArray.mk #[])), (.int .i64 0), (.int .i64 0), .nils, (.int .i64 0), (.int .i64 0), (.cplx .f64 0 0), (.str (ByteArray.mk #[])), (.int .i64 0), (.int .i64 0), .nils, .nils, (.int .i64 0), (.int .i64 0), (.int .i64 0), .nils, (.int .i64 (IntKind.i64.wrap (x4 + 1)))]]) : Option H).bind fun h33 =>
    some ((.ptr (h32).length 0 0), 0, h33)))))))
abbrev ks18 : List SK := [.agg [.str, .ref], .one .ref]
abbrev rs18 : List SK := [.one .ref, .one (.int .i64)]
noncomputable def e18 (N : Nat) : Env := ⟨Tryz.prog, 58, inTab [2], inTab [], natTab [(2, 2), (21, 2), (27, 2), (37, 2), (42, 2)], inTab [], calTab [(24, .full (mkFun ks24 rs24 (F24 N))), (41, .ro (mkFun ks41 rs41 (F41 N))), (42, .gro (mkFun ks42 rs42 (F42 N)))], altTab [], loopTab [], natTab []⟩
theorem fine18 (N : Nat) : Fine (e18 N) N 18 Tryz.f18 ks18 rs18 (F18 N) :=
  ⟨Tryz.func18, by kernel_rfl, by kernel_rfl, by kernel_rfl, loops_of trivial, by kernel_rfl, by kernel_rfl, fun _ => by kernel_rfl⟩
theorem good18 (N : Nat) : Go.L.Good (e18 N) := good_of ⟨gd24 N, ⟨gd41 N, ⟨gdg42 N, trivial⟩⟩⟩
theorem gd18 (N : Nat) : CalOk Tryz.prog 18 (.full (mkFun ks18 rs18 (F18 N))) := mkFun_good (fine18 N) (good18 N)

/-! ### 51: code.is -/
noncomputable def F51 (N : Nat) : Int × H → Option (Bool × H)
  | (a0, h) =>
    (if (decide (a0 ≥ 1)) = true then (
    some ((decide (a0 ≤ 46)), h))
    else (
    some (false, h))).bind fun (b1, h2) =>
    some (b1, h2)
abbrev ks51 : List SK := [.one (.int .i64)]
abbrev rs51 : List SK := [.one .bool]
noncomputable def e51 (N : Nat) : Env := ⟨Tryz.prog, 9, inTab [], inTab [], natTab [], inTab [], calTab [], altTab [], loopTab [], natTab []⟩
theorem fine51 (N : Nat) : Fine (e51 N) N 51 Tryz.f51 ks51 rs51 (F51 N) :=
  ⟨Tryz.func51, by kernel_rfl, by kernel_rfl, by kernel_rfl, loops_of trivial, by kernel_rfl, by kernel_rfl, fun _ => by kernel_rfl⟩
theorem good51 (N : Nat) : Go.L.Good (e51 N) := good_of trivial
theorem gd51 : CalOk Tryz.prog 51 (.pure (mkP ks51 rs51 (F51 100))) := mkP_good (fine51 100) (good51 100) (by kernel_rfl) (by kernel_rfl)

/-! ### 43: code.Effect -/
noncomputable def F43 (N : Nat) : ByteArray × V × Int × Int × Int × Int × Int × (Nat × Nat) × ByteArray × Int × Int × V × V × H → Option (Int × Int × Int × H)
  | (a0_0, a0_1, a1_0, a1_1, a1_2, a1_3, a1_4, a1_5, a1_6, a1_7, a1_8, a1_9, a1_10, h) =>
    (F51 100 (a1_0, [])).bind fun (x1, _) =>
    (if (!x1) = true then (
    some (0, 0, 61, h))
    else (
    ((if (a1_0 == 3) = true then (
    some (a1_0, (a1_0 == 3), a0_0, a0_1, a1_0, a1_1, a1_2, a1_3, a1_4, (a1_5.1, a1_5.2), a1_6, a1_7, a1_8, a1_9, a1_10, h))
    else (
    (if (a1_0 == 18) = true then (
    some (a1_0, (a1_0 == 18), a0_0, a0_1, a1_0, a1_1, a1_2, a1_3, a1_4, (a1_5.1, a1_5.2), a1_6, a1_7, a1_8, a1_9, a1_10, h))
    else (
    some (a1_0, (a1_0 == 19), a0_0, a0_1, a1_0, a1_1, a1_2, a1_3, a1_4, (a1_5.1, a1_5.2), a1_6, a1_7, a1_8, a1_9, a1_10, h))))) : Option (Int × Bool × ByteArray × V × Int × Int × Int × Int × Int × (Nat × Nat) × ByteArray × Int × Int × V × V × H)).bind fun (x2, x3, x4, x5, x6, x7, x8, x9, x10, x11, x12, x13, x14, x15, x16, h17) =>
    (if x3 = true then (
    (if (decide (x7 < 0)) = true then (
    some (true, h17))
    else (
    some ((decide (x7 > 256)), h17))).bind fun (b18, h19) =>
    (if b18 = true then (
    some (0, 0, 61, h19))
    else (
    (if (x6 == 3) = true then (
    some ((IntKind.i64.wrap (x7 + 1)), (IntKind.i64.wrap (x7 + 2)), 0, h19))
    else (
    some (x7, 1, 0, h19))))))
    else (
    ((if (x2 == 28) = true then (
    some (x2, (x2 == 28), x4, x5, x6, x7, x8, x9, x10, (x11.1, x11.2), x12, x13, x14, x15, x16, h17))
    else (
    some (x2, (x2 == 34), x4, x5, x6, x7, x8, x9, x10, (x11.1, x11.2), x12, x13, x14, x15, x16, h17))) : Option (Int × Bool × ByteArray × V × Int × Int × Int × Int × Int × (Nat × Nat) × ByteArray × Int × Int × V × V × H)).bind fun (x20, x21, x22, x23, x24, x25, x26, x27, x28, x29, x30, x31, x32, x33, x34, h35) =>
    (if x21 = true then (
    (if (decide (x25 < 0)) = true then (
    some (true, h35))
    else (
    (slen x23).bind fun n38 =>
    some ((decide (x25 ≥ n38)), h35))).bind fun (b36, h37) =>
    (if b36 = true then (
    some (true, h37))
    else (
    (sidx x23 x25 4).bind fun q41 =>
    (L.asInt .i64 (rd h37 (padd q41 1) 0)).bind fun x42 =>
    some ((decide (x42 < 0)), h37))).bind fun (b39, h40) =>
    (if b39 = true then (
    some (0, 0, 61, h40))
    else (
    (sidx x23 x25 4).bind fun q43 =>
    (L.asInt .i64 (rd h40 (padd q43 1) 0)).bind fun x44 =>
    some (x44, 1, 0, h40))))
    else (
    ((if (x20 == 1) = true then (
    some (x20, (x20 == 1), h35))
    else (
    (if (x20 == 4) = true then (
    some (x20, (x20 == 4), h35))
    else (
    (if (x20 == 30) = true then (
    some (x20, (x20 == 30), h35))
    else (
    some (x20, (x20 == 31), h35))))))) : Option (Int × Bool × H)).bind fun (x45, x46, h47) =>
    (if x46 = true then (
    some (0, 1, 0, h47))
    else (
    ((if (x45 == 25) = true then (
    some (x45, (x45 == 25), h47))
    else (
    (if (x45 == 33) = true then (
    some (x45, (x45 == 33), h47))
    else (
    some (x45, (x45 == 46), h47))))) : Option (Int × Bool × H)).bind fun (x48, x49, h50) =>
    (if x49 = true then (
    some (0, 0, 0, h50))
    else (
    ((if (x48 == 2) = true then (
    some (x48, (x48 == 2), h50))
    else (
    (if (x48 == 5) = true then (
    some (x48, (x48 == 5), h50))
    else (
    (if (x48 == 26) = true then (
    some (x48, (x48 == 26), h50))
    else (
    (if (x48 == 27) = true then (
    some (x48, (x48 == 27), h50))
    else (
    (if (x48 == 29) = true then (
    some (x48, (x48 == 29), h50))
    else (
    (if (x48 == 41) = true then (
    some (x48, (x48 == 41), h50))
    else (
    (if (x48 == 44) = true then (
    some (x48, (x48 == 44), h50))
    else (
    some (x48, (x48 == 45), h50))))))))))))))) : Option (Int × Bool × H)).bind fun (x51, x52, h53) =>
    (if x52 = true then (
    some (1, 0, 0, h53))
    else (
    ((if (x51 == 6) = true then (
    some ((x51 == 6), h53))
    else (
    (if (x51 == 7) = true then (
    some ((x51 == 7), h53))
    else (
    (if (x51 == 8) = true then (
    some ((x51 == 8), h53))
    else (
    (if (x51 == 9) = true then (
    some ((x51 == 9), h53))
    else (
    (if (x51 == 10) = true then (
    some ((x51 == 10), h53))
    else (
    (if (x51 == 13) = true then (
    some ((x51 == 13), h53))
    else (
    (if (x51 == 14) = true then (
    some ((x51 == 14), h53))
    else (
    (if (x51 == 15) = true then (
    some ((x51 == 15), h53))
    else (
    (if (x51 == 20) = true then (
    some ((x51 == 20), h53))
    else (
    (if (x51 == 22) = true then (
    some ((x51 == 22), h53))
    else (
    (if (x51 == 32) = true then (
    some ((x51 == 32), h53))
    else (
    some ((x51 == 35), h53))))))))))))))))))))))) : Option (Bool × H)).bind fun (x54, h55) =>
    (if x54 = true then (
    some (2, 1, 0, h55))
    else (
    some (1, 1, 0, h55)))))))))))))))
abbrev ks43 : List SK := [.agg [.str, .ref], .agg [(.int .i64), (.int .i64), (.int .i64), (.int .i64), (.int .i64), (.cplx .f64), .str, (.int .i64), (.int .i64), .ref, .ref]]
abbrev rs43 : List SK := [.one (.int .i64), .one (.int .i64), .one (.int .i64)]
noncomputable def e43 (N : Nat) : Env := ⟨Tryz.prog, 98, inTab [2, 3], inTab [], natTab [(2, 2), (3, 3), (7, 3), (11, 3), (17, 3), (21, 3), (25, 3), (28, 3), (31, 3), (34, 3), (39, 3), (43, 3), (45, 2), (51, 2), (53, 3), (60, 2), (62, 3)], inTab [], calTab [(51, .pure (mkP ks51 rs51 (F51 100)))], altTab [(1342177293, [⟨.normal, [2, 3, 12, 13], [.lp 2 0, .lp 3 0, .one (.int .i64), .one .bool], [2, 3], [.cells [.str, .ref], .cells [(.int .i64), (.int .i64), (.int .i64), (.int .i64), (.int .i64), (.cplx .f64), .str, (.int .i64), (.int .i64), .ref, .ref]]⟩]), (3489660964, [⟨.normal, [2, 3, 12, 36], [.lp 2 0, .lp 3 0, .one (.int .i64), .one .bool], [2, 3], [.cells [.str, .ref], .cells [(.int .i64), (.int .i64), (.int .i64), (.int .i64), (.int .i64), (.cplx .f64), .str, (.int .i64), (.int .i64), .ref, .ref]]⟩]), (4831838275, [⟨.normal, [12, 67], [.one (.int .i64), .one .bool], [], []⟩]), (6174015560, [⟨.normal, [12, 72], [.one (.int .i64), .one .bool], [], []⟩]), (7247757388, [⟨.normal, [12, 76], [.one (.int .i64), .one .bool], [], []⟩]), (9663676501, [⟨.normal, [85], [.one .bool], [], []⟩])], loopTab [], natTab []⟩
theorem fine43 (N : Nat) : Fine (e43 N) N 43 Tryz.f43 ks43 rs43 (F43 N) :=
  ⟨Tryz.func43, by kernel_rfl, by kernel_rfl, by kernel_rfl, loops_of trivial, by kernel_rfl, by kernel_rfl, fun _ => by kernel_rfl⟩
theorem good43 (N : Nat) : Go.L.Good (e43 N) := good_of ⟨gd51, trivial⟩
theorem gd43 (N : Nat) : CalOk Tryz.prog 43 (.ro (mkFun ks43 rs43 (F43 N))) := mkFun_ro (fine43 N) (good43 N) (by kernel_rfl)

/-! ### 35: frame.Stack).Height -/
noncomputable def F35 (N : Nat) : V × H → Option (Int × H)
  | (a0, h) =>
    (F49 N (a0, h)).bind fun (x1, _) =>
    (if (!x1) = true then (
    some (0, h))
    else (
    (F59 N (a0, h)).bind fun (x2, _) =>
    some (x2, h)))
abbrev ks35 : List SK := [.one .ref]
abbrev rs35 : List SK := [.one (.int .i64)]
noncomputable def e35 (N : Nat) : Env := ⟨Tryz.prog, 8, inTab [], inTab [], natTab [], inTab [], calTab [(49, .ro (mkFun ks49 rs49 (F49 N))), (59, .ro (mkFun ks59 rs59 (F59 N)))], altTab [], loopTab [], natTab []⟩
theorem fine35 (N : Nat) : Fine (e35 N) N 35 Tryz.f35 ks35 rs35 (F35 N) :=
  ⟨Tryz.func35, by kernel_rfl, by kernel_rfl, by kernel_rfl, loops_of trivial, by kernel_rfl, by kernel_rfl, fun _ => by kernel_rfl⟩
theorem good35 (N : Nat) : Go.L.Good (e35 N) := good_of ⟨gd49 N, ⟨gd59 N, trivial⟩⟩
theorem gd35 (N : Nat) : CalOk Tryz.prog 35 (.ro (mkFun ks35 rs35 (F35 N))) := mkFun_ro (fine35 N) (good35 N) (by kernel_rfl)

/-! ### 44: frame.Stack).View -/
noncomputable def L44_0 (N : Nat) : Nat → V × V × Int × Int × V × V × V × V × H → Option (V × V × V × V × V × H)
  | 0, _ => none
  | n + 1, (x22, x23, x24, x25, x26, x27, x28, x29, h30) =>
    (if (decide (x25 < x24)) = true then (
    (sidx x23 x25 4).bind fun q31 =>
    (L.asInt .i64 (rd h30 q31 0)).bind fun x32 =>
    (L.asInt .i64 (rd h30 q31 1)).bind fun x33 =>
    ((rd h30 q31 2)).bind fun x34 =>
    (L.asInt .i64 (rd h30 q31 3)).bind fun x35 =>
    (F75 N (x34, h30)).bind fun (x36, h37) =>
    (ck1 x36).bind fun _ =>
    (happ h37 x28 4 1 [(.int .i64 x32), (.int .i64 x33), x36, (.int .i64 x35)]).bind fun (v38, h39) =>
    (ck1 v38).bind fun _ =>
    L44_0 N n (x22, x23, x24, (IntKind.i64.wrap (x25 + 1)), x26, x27, v38, x29, h39))
    else (
    some (x22, x26, x27, x28, x29, h30)))
noncomputable def F44 (N : Nat) : V × H → Option (V × V × H)
  | (a0, h) =>
    (F49 N (a0, h)).bind fun (x1, _) =>
    (if (!x1) = true then (
    some (.nils, .nils, h))
    else (
    (nck a0).bind fun _ =>
    ((rd h (padd a0 1) 0)).bind fun x2 =>
    (slen x2).bind fun n3 =>
    (L44_0 N N (a0, x2, n3, 0, .nils, .nils, .nils, .nils, h)).bind fun (x40, x41, x42, x43, x44, h45) =>
    (nck x40).bind fun _ =>
    ((rd h45 (padd x40 2) 0)).bind fun x46 =>
    (F75 N (x46, h45)).bind fun (x47, h48) =>
    (ck1 x47).bind fun _ =>
    some (x43, x47, h48)))
abbrev ks44 : List SK := [.one .ref]
abbrev rs44 : List SK := [.agg [.ref, .ref]]
noncomputable def e44 (N : Nat) : Env := ⟨Tryz.prog, 44, inTab [2, 3, 5, 33], inTab [], natTab [(2, 2), (3, 3), (5, 5), (19, 3), (21, 5), (22, 5), (24, 5), (25, 5), (27, 5), (30, 5), (35, 3), (42, 3)], inTab [], calTab [(49, .ro (mkFun ks49 rs49 (F49 N))), (75, .full (mkFun ks75 rs75 (F75 N)))], altTab [], loopTab [(5, ⟨⟨.normal, [0, 2, 3, 13, 14, 15], [.one .ref, .lp 2 0, .lp 3 0, .one .ref, .one (.int .i64), .one (.int .i64)], [2, 3], [.cells [.ref, .ref], .cells [.ref, .ref]]⟩, [⟨(.exit 0), [0, 2, 3], [.one .ref, .lp 2 0, .lp 3 0], [2, 3], [.cells [.ref, .ref], .cells [.ref, .ref]]⟩], L44_0 N⟩)], natTab []⟩
theorem l44_0 (N : Nat) : ∀ A, (e44 N).lp (lid (loopAt Tryz.f44 0)) = some A → LoopOk (e44 N) N (loopAt Tryz.f44 0) A :=
  loopOk_of (A := ⟨⟨.normal, [0, 2, 3, 13, 14, 15], [.one .ref, .lp 2 0, .lp 3 0, .one .ref, .one (.int .i64), .one (.int .i64)], [2, 3], [.cells [.ref, .ref], .cells [.ref, .ref]]⟩, [⟨(.exit 0), [0, 2, 3], [.one .ref, .lp 2 0, .lp 3 0], [2, 3], [.cells [.ref, .ref], .cells [.ref, .ref]]⟩], L44_0 N⟩) (by kernel_rfl) (fun _ => rfl) (fun _ _ => by kernel_rfl)
theorem fine44 (N : Nat) : Fine (e44 N) N 44 Tryz.f44 ks44 rs44 (F44 N) :=
  ⟨Tryz.func44, by kernel_rfl, by kernel_rfl, by kernel_rfl, loops_of ⟨l44_0 N, trivial⟩, by kernel_rfl, by kernel_rfl, fun _ => by kernel_rfl⟩
theorem good44 (N : Nat) : Go.L.Good (e44 N) := good_of ⟨gd49 N, ⟨gd75 N, trivial⟩⟩
theorem gd44 (N : Nat) : CalOk Tryz.prog 44 (.full (mkFun ks44 rs44 (F44 N))) := mkFun_good (fine44 N) (good44 N)

/-! ### 19: step.doing).takes -/
noncomputable def L19_0 (N : Nat) : Nat → V × Int × H → Option (H)
  | 0, _ => none
  | n + 1, (x42, x43, h44) =>
    (if (decide (x43 ≥ 0)) = true then (
    (nck x42).bind fun _ =>
    ((rd h44 (padd x42 17) 0)).bind fun x45 =>
    (nck x42).bind fun _ =>
    ((rd h44 (padd x42 18) 0)).bind fun x46 =>
    (F45 N (x45, h44)).bind fun (x47, x48, x49, x50, x51, x52, x53, x54, h55) =>
    (sidx x46 x43 7).bind fun q56 =>
    (wr h55 q56 [(.int .i64 x47), (.int .i64 x48), (.cplx .f64 x49.1 x49.2), (.str x50), (.int .i64 x51), (.int .i64 x52), x53]).bind fun h57 =>
    (sepS (.p (padd x42 18)) (.p x45)).bind fun _ =>
    L19_0 N n (x42, (IntKind.i64.wrap (x43 - 1)), h57))
    else (
    some h44))
noncomputable def F19 (N : Nat) : V × H → Option (Int × H)
  | (a0, h) =>
    (nck a0).bind fun _ =>
    (L.asStr (rd h (padd a0 0) 0)).bind fun x1 =>
    ((rd h (padd a0 0) 1)).bind fun x2 =>
    (nck a0).bind fun _ =>
    (L.asInt .i64 (rd h (padd a0 6) 0)).bind fun x3 =>
    (L.asInt .i64 (rd h (padd a0 6) 1)).bind fun x4 =>
    (L.asInt .i64 (rd h (padd a0 6) 2)).bind fun x5 =>
    (L.asInt .i64 (rd h (padd a0 6) 3)).bind fun x6 =>
    (L.asInt .i64 (rd h (padd a0 6) 4)).bind fun x7 =>
    (L.asCplx .f64 (rd h (padd a0 6) 5)).bind fun x8 =>
    (L.asStr (rd h (padd a0 6) 6)).bind fun x9 =>
    (L.asInt .i64 (rd h (padd a0 6) 7)).bind fun x10 =>
    (L.asInt .i64 (rd h (padd a0 6) 8)).bind fun x11 =>
    ((rd h (padd a0 6) 9)).bind fun x12 =>
    ((rd h (padd a0 6) 10)).bind fun x13 =>
    (F43 N (x1, x2, x3, x4, x5, x6, x7, (x8.1, x8.2), x9, x10, x11, x12, x13, h)).bind fun (x14, x15, x16, _) =>
    (if (x16 != 0) = true then (
    some (x16, h))
    else (
    (nck a0).bind fun _ =>
    ((rd h (padd a0 17) 0)).bind fun x17 =>
    (F35 N (x17, h)).bind fun (x18, _) =>
    (if (decide (x18 < x14)) = true then (
    some (92, h))
    else (
    (nck a0).bind fun _ =>
    ((rd h (padd a0 17) 0)).bind fun x19 =>
    (F44 N (x19, h)).bind fun (x20, x21, h22) =>
    (slen x21).bind fun n23 =>
    (if (decide ((IntKind.i64.wrap ((IntKind.i64.wrap (n23 - x14)) + x15)) > 256)) = true then (
    some (91, h22))
    else (
    (if 0 ≤ x14 then (if x14 ≤ x14 then (if x14 * ((7 : Nat) : Int) ≤ ((mostCells : Nat) : Int) then (
    (some (h22 ++ [O.cells 0 (repeatC (Int.toNat x14) [(.int .i64 0), (.int .i64 0), (.cplx .f64 0 0), (.str (ByteArray.mk #[])), (.int .i64 0), (.int .i64 0), .nils])]) : Option H).bind fun h24 =>
    (nck a0).bind fun _ =>
    (ck1 (.sl (h22).length 0 0 (Int.toNat x14) 7 (some (Int.toNat x14)))).bind fun _ =>
    (wr h24 (padd a0 18) [(.sl (h22).length 0 0 (Int.toNat x14) 7 (some (Int.toNat x14)))]).bind fun h25 =>
    (L19_0 N N (a0, (IntKind.i64.wrap (x14 - 1)), h25)).bind fun h58 =>
    some (0, h58)) else none) else none) else none)))))))
abbrev ks19 : List SK := [.one .ref]
abbrev rs19 : List SK := [.one (.int .i64)]
noncomputable def e19 (N : Nat) : Env := ⟨Tryz.prog, 67, inTab [], inTab [], natTab [], inTab [], calTab [(43, .ro (mkFun ks43 rs43 (F43 N))), (35, .ro (mkFun ks35 rs35 (F35 N))), (44, .full (mkFun ks44 rs44 (F44 N))), (45, .own (mkFun ks45 rs45 (F45 N)))], altTab [], loopTab [(10, ⟨⟨.normal, [0, 6], [.one .ref, .one (.int .i64)], [], []⟩, [⟨(.exit 0), [], [], [], []⟩], L19_0 N⟩)], natTab []⟩
theorem l19_0 (N : Nat) : ∀ A, (e19 N).lp (lid (loopAt Tryz.f19 0)) = some A → LoopOk (e19 N) N (loopAt Tryz.f19 0) A :=
  loopOk_of (A := ⟨⟨.normal, [0, 6], [.one .ref, .one (.int .i64)], [], []⟩, [⟨(.exit 0), [], [], [], []⟩], L19_0 N⟩) (by kernel_rfl) (fun _ => rfl) (fun _ _ => by kernel_rfl)
theorem fine19 (N : Nat) : Fine (e19 N) N 19 Tryz.f19 ks19 rs19 (F19 N) :=
  ⟨Tryz.func19, by kernel_rfl, by kernel_rfl, by kernel_rfl, loops_of ⟨l19_0 N, trivial⟩, by kernel_rfl, by kernel_rfl, fun _ => by kernel_rfl⟩
theorem good19 (N : Nat) : Go.L.Good (e19 N) := good_of ⟨gd43 N, ⟨gd35 N, ⟨gd44 N, ⟨gdo45 N, trivial⟩⟩⟩⟩
theorem gd19 (N : Nat) : CalOk Tryz.prog 19 (.full (mkFun ks19 rs19 (F19 N))) := mkFun_good (fine19 N) (good19 N)

/-! ### 308: term.own$1 -/
noncomputable def F308 (N : Nat) : Bool × Bool × Bool × Bool × Bool × V × H → Option (Bool × H)
  | (a0, a1, a2, a3, a4, a5, h) =>
    (if a0 = true then (
    some (true, h))
    else (
    (nck a5).bind fun _ =>
    (L.asInt .i64 (rd h (padd a5 1) 0)).bind fun x3 =>
    some ((x3 == 0), h))).bind fun (b1, h2) =>
    (if b1 = true then (
    (if a1 = true then (
    some (true, h2))
    else (
    (nck a5).bind fun _ =>
    (L.asCplx .f64 (rd h2 (padd a5 2) 0)).bind fun x8 =>
    some ((Op.floatEq .f64 x8.1 0 && Op.floatEq .f64 x8.2 0), h2))).bind fun (b6, h7) =>
    some (b6, h7))
    else (
    some (false, h2))).bind fun (b4, h5) =>
    (if b4 = true then (
    (if a2 = true then (
    some (true, h5))
    else (
    (nck a5).bind fun _ =>
    (L.asStr (rd h5 (padd a5 3) 0)).bind fun x13 =>
    some (((x13).toList == ((ByteArray.mk #[])).toList), h5))).bind fun (b11, h12) =>
    some (b11, h12))
    else (
    some (false, h5))).bind fun (b9, h10) =>
    (if b9 = true then (
    (if a3 = true then (
    some (true, h10))
    else (
    (nck a5).bind fun _ =>
    (L.asInt .i64 (rd h10 (padd a5 4) 0)).bind fun x18 =>
    (L.asInt .i64 (rd h10 (padd a5 4) 1)).bind fun x19 =>
    some (((x18 == 0) && ((x19 == 0) && true)), h10))).bind fun (b16, h17) =>
    some (b16, h17))
    else (
    some (false, h10))).bind fun (b14, h15) =>
    (if b14 = true then (
    (if a4 = true then (
    some (true, h15))
    else (
    (nck a5).bind fun _ =>
    ((rd h15 (padd a5 6) 0)).bind fun x24 =>
    (slen x24).bind fun n25 =>
    some ((n25 == 0), h15))).bind fun (b22, h23) =>
    some (b22, h23))
    else (
    some (false, h15))).bind fun (b20, h21) =>
    some (b20, h21)
abbrev ks308 : List SK := [.one .bool, .one .bool, .one .bool, .one .bool, .one .bool, .one .ref]
abbrev rs308 : List SK := [.one .bool]
noncomputable def e308 (N : Nat) : Env := ⟨Tryz.prog, 52, inTab [], inTab [], natTab [], inTab [], calTab [], altTab [], loopTab [], natTab []⟩
theorem fine308 (N : Nat) : Fine (e308 N) N 308 Tryz.f308 ks308 rs308 (F308 N) :=
  ⟨Tryz.func308, by kernel_rfl, by kernel_rfl, by kernel_rfl, loops_of trivial, by kernel_rfl, by kernel_rfl, fun _ => by kernel_rfl⟩
theorem good308 (N : Nat) : Go.L.Good (e308 N) := good_of trivial
theorem gd308 (N : Nat) : CalOk Tryz.prog 308 (.ro (mkFun ks308 rs308 (F308 N))) := mkFun_ro (fine308 N) (good308 N) (by kernel_rfl)

/-! ### 479: math.archTrunc -/
set_option maxRecDepth 100000 in
theorem gd479 : CalOk Tryz.prog 479 (.ext (mkP [.one (.float .f64)] [.one (.float .f64)] truncX)) := ext_trunc Tryz.func479 (by kernel_rfl) (by kernel_rfl) (by kernel_rfl) (by kernel_rfl)

/-! ### 481: math.Float64bits -/
set_option maxRecDepth 100000 in
theorem gd481 : CalOk Tryz.prog 481 (.ext (mkP [.one (.float .f64)] [.one (.int .u64)] bitsX)) := ext_bits Tryz.func481 (by kernel_rfl) (by kernel_rfl) (by kernel_rfl) (by kernel_rfl)

/-! ### 561: math.Float64frombits -/
set_option maxRecDepth 100000 in
theorem gd561 : CalOk Tryz.prog 561 (.ext (mkP [.one (.int .u64)] [.one (.float .f64)] fromX)) := ext_from Tryz.func561 (by kernel_rfl) (by kernel_rfl) (by kernel_rfl) (by kernel_rfl)

/-! ### 559: math.Abs -/
noncomputable def F559 (N : Nat) : Nat × H → Option (Nat × H)
  | (a0, h) =>
    (bitsX (a0, [])).bind fun (x1, _) =>
    (fromX ((IntKind.u64.wrap (((BitVec.ofInt IntKind.u64.bits x1) &&& ~~~ (BitVec.ofInt IntKind.u64.bits 9223372036854775808)).toNat)), [])).bind fun (x2, _) =>
    some (x2, h)
abbrev ks559 : List SK := [.one (.float .f64)]
abbrev rs559 : List SK := [.one (.float .f64)]
noncomputable def e559 (N : Nat) : Env := ⟨Tryz.prog, 7, inTab [], inTab [], natTab [], inTab [], calTab [(481, .ext (mkP [.one (.float .f64)] [.one (.int .u64)] bitsX)), (561, .ext (mkP [.one (.int .u64)] [.one (.float .f64)] fromX))], altTab [], loopTab [], natTab []⟩
theorem fine559 (N : Nat) : Fine (e559 N) N 559 Tryz.f559 ks559 rs559 (F559 N) :=
  ⟨Tryz.func559, by kernel_rfl, by kernel_rfl, by kernel_rfl, loops_of trivial, by kernel_rfl, by kernel_rfl, fun _ => by kernel_rfl⟩
theorem good559 (N : Nat) : Go.L.Good (e559 N) := good_of ⟨gd481, ⟨gd561, trivial⟩⟩
theorem gd559 : CalOk Tryz.prog 559 (.pure (mkP ks559 rs559 (F559 100))) := mkP_good (fine559 100) (good559 100) (by kernel_rfl) (by kernel_rfl)

/-! ### 560: math.Copysign -/
noncomputable def F560 (N : Nat) : Nat × Nat × H → Option (Nat × H)
  | (a0, a1, h) =>
    (bitsX (a0, [])).bind fun (x1, _) =>
    (bitsX (a1, [])).bind fun (x2, _) =>
    (fromX ((IntKind.u64.wrap (((BitVec.ofInt IntKind.u64.bits (IntKind.u64.wrap (((BitVec.ofInt IntKind.u64.bits x1) &&& ~~~ (BitVec.ofInt IntKind.u64.bits 9223372036854775808)).toNat))) ||| (BitVec.ofInt IntKind.u64.bits (IntKind.u64.wrap (((BitVec.ofInt IntKind.u64.bits x2) &&& (BitVec.ofInt IntKind.u64.bits 9223372036854775808)).toNat)))).toNat)), [])).bind fun (x3, _) =>
    some (x3, h)
abbrev ks560 : List SK := [.one (.float .f64), .one (.float .f64)]
abbrev rs560 : List SK := [.one (.float .f64)]
noncomputable def e560 (N : Nat) : Env := ⟨Tryz.prog, 13, inTab [], inTab [], natTab [], inTab [], calTab [(481, .ext (mkP [.one (.float .f64)] [.one (.int .u64)] bitsX)), (561, .ext (mkP [.one (.int .u64)] [.one (.float .f64)] fromX))], altTab [], loopTab [], natTab []⟩
theorem fine560 (N : Nat) : Fine (e560 N) N 560 Tryz.f560 ks560 rs560 (F560 N) :=
  ⟨Tryz.func560, by kernel_rfl, by kernel_rfl, by kernel_rfl, loops_of trivial, by kernel_rfl, by kernel_rfl, fun _ => by kernel_rfl⟩
theorem good560 (N : Nat) : Go.L.Good (e560 N) := good_of ⟨gd481, ⟨gd561, trivial⟩⟩
theorem gd560 : CalOk Tryz.prog 560 (.pure (mkP ks560 rs560 (F560 100))) := mkP_good (fine560 100) (good560 100) (by kernel_rfl) (by kernel_rfl)

/-! ### 480: math.trunc -/
noncomputable def F480 (N : Nat) : Nat × H → Option (Nat × H)
  | (a0, h) =>
    (F559 100 (a0, [])).bind fun (x1, _) =>
    (if ((FloatKind.f64.format.order x1 4607182418800017408) == some .lt) = true then (
    (F560 100 (0, a0, [])).bind fun (x2, _) =>
    some (x2, h))
    else (
    (bitsX (a0, [])).bind fun (x3, _) =>
    ((if (decide ((IntKind.u64.wrap ((IntKind.u64.wrap (((BitVec.ofInt IntKind.u64.bits (Int.fdiv x3 (2 ^ (min (Int.toNat 52) IntKind.u64.bits)))) &&& (BitVec.ofInt IntKind.u64.bits 2047)).toNat)) - 1023)) < 52)) = true then (
    (if (IntKind.u64.wrap (52 - (IntKind.u64.wrap ((IntKind.u64.wrap (((BitVec.ofInt IntKind.u64.bits (Int.fdiv x3 (2 ^ (min (Int.toNat 52) IntKind.u64.bits)))) &&& (BitVec.ofInt IntKind.u64.bits 2047)).toNat)) - 1023)))) < 0 then none else (
    some ((IntKind.u64.wrap (((BitVec.ofInt IntKind.u64.bits x3) &&& ~~~ (BitVec.ofInt IntKind.u64.bits (IntKind.u64.wrap ((IntKind.u64.wrap (1 * 2 ^ (min (Int.toNat (IntKind.u64.wrap (52 - (IntKind.u64.wrap ((IntKind.u64.wrap (((BitVec.ofInt IntKind.u64.bits (Int.fdiv x3 (2 ^ (min (Int.toNat 52) IntKind.u64.bits)))) &&& (BitVec.ofInt IntKind.u64.bits 2047)).toNat)) - 1023))))) IntKind.u64.bits))) - 1)))).toNat)), h))))
    else (
    some (x3, h))) : Option (Int × H)).bind fun (x4, h5) =>
    (fromX (x4, [])).bind fun (x6, _) =>
    some (x6, h5)))
abbrev ks480 : List SK := [.one (.float .f64)]
abbrev rs480 : List SK := [.one (.float .f64)]
noncomputable def e480 (N : Nat) : Env := ⟨Tryz.prog, 26, inTab [], inTab [], natTab [], inTab [], calTab [(559, .pure (mkP ks559 rs559 (F559 100))), (560, .pure (mkP ks560 rs560 (F560 100))), (481, .ext (mkP [.one (.float .f64)] [.one (.int .u64)] bitsX)), (561, .ext (mkP [.one (.int .u64)] [.one (.float .f64)] fromX))], altTab [(393233, [⟨.normal, [3], [.one (.int .u64)], [], []⟩])], loopTab [], natTab []⟩
theorem fine480 (N : Nat) : Fine (e480 N) N 480 Tryz.f480 ks480 rs480 (F480 N) :=
  ⟨Tryz.func480, by kernel_rfl, by kernel_rfl, by kernel_rfl, loops_of trivial, by kernel_rfl, by kernel_rfl, fun _ => by kernel_rfl⟩
theorem good480 (N : Nat) : Go.L.Good (e480 N) := good_of ⟨gd559, ⟨gd560, ⟨gd481, ⟨gd561, trivial⟩⟩⟩⟩
theorem gd480 : CalOk Tryz.prog 480 (.pure (mkP ks480 rs480 (F480 100))) := mkP_good (fine480 100) (good480 100) (by kernel_rfl) (by kernel_rfl)

/-! ### 386: math.Trunc -/
noncomputable def F386 (N : Nat) : Nat × H → Option (Nat × H)
  | (a0, h) =>
    (if true = true then (
    (truncX (a0, [])).bind fun (x1, _) =>
    some (x1, h))
    else (
    (F480 100 (a0, [])).bind fun (x2, _) =>
    some (x2, h)))
abbrev ks386 : List SK := [.one (.float .f64)]
abbrev rs386 : List SK := [.one (.float .f64)]
noncomputable def e386 (N : Nat) : Env := ⟨Tryz.prog, 7, inTab [], inTab [], natTab [], inTab [], calTab [(479, .ext (mkP [.one (.float .f64)] [.one (.float .f64)] truncX)), (480, .pure (mkP ks480 rs480 (F480 100)))], altTab [], loopTab [], natTab []⟩
theorem fine386 (N : Nat) : Fine (e386 N) N 386 Tryz.f386 ks386 rs386 (F386 N) :=
  ⟨Tryz.func386, by kernel_rfl, by kernel_rfl, by kernel_rfl, loops_of trivial, by kernel_rfl, by kernel_rfl, fun _ => by kernel_rfl⟩
theorem good386 (N : Nat) : Go.L.Good (e386 N) := good_of ⟨gd479, ⟨gd480, trivial⟩⟩
theorem gd386 : CalOk Tryz.prog 386 (.pure (mkP ks386 rs386 (F386 100))) := mkP_good (fine386 100) (good386 100) (by kernel_rfl) (by kernel_rfl)

/-! ### 387: math.Signbit -/
noncomputable def F387 (N : Nat) : Nat × H → Option (Bool × H)
  | (a0, h) =>
    (bitsX (a0, [])).bind fun (x1, _) =>
    some ((decide ((IntKind.i64.wrap x1) < 0)), h)
abbrev ks387 : List SK := [.one (.float .f64)]
abbrev rs387 : List SK := [.one .bool]
noncomputable def e387 (N : Nat) : Env := ⟨Tryz.prog, 7, inTab [], inTab [], natTab [], inTab [], calTab [(481, .ext (mkP [.one (.float .f64)] [.one (.int .u64)] bitsX))], altTab [], loopTab [], natTab []⟩
theorem fine387 (N : Nat) : Fine (e387 N) N 387 Tryz.f387 ks387 rs387 (F387 N) :=
  ⟨Tryz.func387, by kernel_rfl, by kernel_rfl, by kernel_rfl, loops_of trivial, by kernel_rfl, by kernel_rfl, fun _ => by kernel_rfl⟩
theorem good387 (N : Nat) : Go.L.Good (e387 N) := good_of ⟨gd481, trivial⟩
theorem gd387 : CalOk Tryz.prog 387 (.pure (mkP ks387 rs387 (F387 100))) := mkP_good (fine387 100) (good387 100) (by kernel_rfl) (by kernel_rfl)

/-! ### 309: term.whole -/
noncomputable def F309 (N : Nat) : Nat × H → Option (Bool × H)
  | (a0, h) =>
    (F386 100 (a0, [])).bind fun (x1, _) =>
    (if ((FloatKind.f64.format.order a0 x1) == some .eq) = true then (
    some (((FloatKind.f64.format.order a0 13965662444475908096) == some .gt || (FloatKind.f64.format.order a0 13965662444475908096) == some .eq), h))
    else (
    some (false, h))).bind fun (b2, h3) =>
    (if b2 = true then (
    some (((FloatKind.f64.format.order a0 4742290407621132288) == some .lt || (FloatKind.f64.format.order a0 4742290407621132288) == some .eq), h3))
    else (
    some (false, h3))).bind fun (b4, h5) =>
    (if b4 = true then (
    (if ((FloatKind.f64.format.order a0 0) != some .eq) = true then (
    some (true, h5))
    else (
    (F387 100 (a0, [])).bind fun (x10, _) =>
    some ((!x10), h5))).bind fun (b8, h9) =>
    some (b8, h9))
    else (
    some (false, h5))).bind fun (b6, h7) =>
    some (b6, h7)
abbrev ks309 : List SK := [.one (.float .f64)]
abbrev rs309 : List SK := [.one .bool]
noncomputable def e309 (N : Nat) : Env := ⟨Tryz.prog, 24, inTab [], inTab [], natTab [], inTab [], calTab [(386, .pure (mkP ks386 rs386 (F386 100))), (387, .pure (mkP ks387 rs387 (F387 100)))], altTab [], loopTab [], natTab []⟩
theorem fine309 (N : Nat) : Fine (e309 N) N 309 Tryz.f309 ks309 rs309 (F309 N) :=
  ⟨Tryz.func309, by kernel_rfl, by kernel_rfl, by kernel_rfl, loops_of trivial, by kernel_rfl, by kernel_rfl, fun _ => by kernel_rfl⟩
theorem good309 (N : Nat) : Go.L.Good (e309 N) := good_of ⟨gd386, ⟨gd387, trivial⟩⟩
theorem gd309 : CalOk Tryz.prog 309 (.pure (mkP ks309 rs309 (F309 100))) := mkP_good (fine309 100) (good309 100) (by kernel_rfl) (by kernel_rfl)

/-! ### 310: term.atom -/
noncomputable def L310_0 (N : Nat) : Nat → ByteArray × Int × H → Option ((H) ⊕ (Bool × H))
  | 0, _ => none
  | n + 1, (x27, x28, h29) =>
    (if (decide (x28 < ((x27).size : Int))) = true then (
    (if 0 ≤ x28 then (x27[Int.toNat x28]?.bind fun c30 =>
    (if (decide (((UInt8.toNat c30 : Nat) : Int) ≥ 97)) = true then (
    some ((decide (((UInt8.toNat c30 : Nat) : Int) ≤ 122)), h29))
    else (
    some (false, h29))).bind fun (b31, h32) =>
    (if b31 = true then (
    some (true, h32))
    else (
    (if (decide (x28 > 0)) = true then (
    (if (decide (((UInt8.toNat c30 : Nat) : Int) ≥ 65)) = true then (
    some ((decide (((UInt8.toNat c30 : Nat) : Int) ≤ 90)), h32))
    else (
    some (false, h32))).bind fun (b37, h38) =>
    (if b37 = true then (
    some (true, h38))
    else (
    (if (decide (((UInt8.toNat c30 : Nat) : Int) ≥ 48)) = true then (
    some ((decide (((UInt8.toNat c30 : Nat) : Int) ≤ 57)), h38))
    else (
    some (false, h38))).bind fun (b41, h42) =>
    some (b41, h42))).bind fun (b39, h40) =>
    (if b39 = true then (
    some (true, h40))
    else (
    some ((((UInt8.toNat c30 : Nat) : Int) == 95), h40))).bind fun (b43, h44) =>
    some (b43, h44))
    else (
    some (false, h32))).bind fun (b35, h36) =>
    some (b35, h36))).bind fun (b33, h34) =>
    (if b33 = true then (
    L310_0 N n (x27, (IntKind.i64.wrap (x28 + 1)), h34))
    else (
    some (.inr (false, h34))))) else none))
    else (
    some (.inl h29)))
noncomputable def F310 (N : Nat) : ByteArray × H → Option (Bool × H)
  | (a0, h) =>
    (if (decide (((a0).size : Int) < 1)) = true then (
    some (true, h))
    else (
    some ((decide (((a0).size : Int) > 64)), h))).bind fun (b1, h2) =>
    (if b1 = true then (
    some (true, h2))
    else (
    some (((a0).toList == ((ByteArray.mk #[110, 105, 108])).toList), h2))).bind fun (b3, h4) =>
    (if b3 = true then (
    some (true, h4))
    else (
    some (((a0).toList == ((ByteArray.mk #[116, 114, 117, 101])).toList), h4))).bind fun (b5, h6) =>
    (if b5 = true then (
    some (true, h6))
    else (
    some (((a0).toList == ((ByteArray.mk #[102, 97, 108, 115, 101])).toList), h6))).bind fun (b7, h8) =>
    (if b7 = true then (
    some (false, h8))
    else (
    (L310_0 N N (a0, 0, h8)).bind fun o45 => match o45 with
    | .inl h46 => (
    some (true, h46))
    | .inr (x47, h48) => (
    some (x47, h48))))
abbrev ks310 : List SK := [.one .str]
abbrev rs310 : List SK := [.one .bool]
noncomputable def e310 (N : Nat) : Env := ⟨Tryz.prog, 64, inTab [], inTab [], natTab [], inTab [], calTab [], altTab [], loopTab [(4, ⟨⟨.normal, [0, 3], [.one .str, .one (.int .i64)], [], []⟩, [⟨(.exit 0), [], [], [], []⟩, ⟨.ret, [2], [.one .bool], [], []⟩], L310_0 N⟩)], natTab []⟩
theorem l310_0 (N : Nat) : ∀ A, (e310 N).lp (lid (loopAt Tryz.f310 0)) = some A → LoopOk (e310 N) N (loopAt Tryz.f310 0) A :=
  loopOk_of (A := ⟨⟨.normal, [0, 3], [.one .str, .one (.int .i64)], [], []⟩, [⟨(.exit 0), [], [], [], []⟩, ⟨.ret, [2], [.one .bool], [], []⟩], L310_0 N⟩) (by kernel_rfl) (fun _ => rfl) (fun _ _ => by kernel_rfl)
theorem fine310 (N : Nat) : Fine (e310 N) N 310 Tryz.f310 ks310 rs310 (F310 N) :=
  ⟨Tryz.func310, by kernel_rfl, by kernel_rfl, by kernel_rfl, loops_of ⟨l310_0 N, trivial⟩, by kernel_rfl, by kernel_rfl, fun _ => by kernel_rfl⟩
theorem good310 (N : Nat) : Go.L.Good (e310 N) := good_of trivial
theorem gd310 : CalOk Tryz.prog 310 (.pure (mkP ks310 rs310 (F310 100))) := mkP_good (fine310 100) (good310 100) (by kernel_rfl) (by kernel_rfl)

/-! ### 235: term.own -/
noncomputable def F235 (N : Nat) : Int × Int × (Nat × Nat) × ByteArray × Int × Int × V × H → Option (Bool × H)
  | (a0_0, a0_1, a0_2, a0_3, a0_4, a0_5, a0_6, h) =>
    (some (h ++ [O.cells 0 [(.int .i64 a0_0), (.int .i64 a0_1), (.cplx .f64 a0_2.1 a0_2.2), (.str a0_3), (.int .i64 a0_4), (.int .i64 a0_5), a0_6]]) : Option H).bind fun h1 =>
    (L.asInt .i64 (rd h1 (.ptr (h).length 0 0) 0)).bind fun x2 =>
    (if (x2 == 1) = true then (
    (F308 N (false, false, false, false, false, (.ptr (h).length 0 0), h1)).bind fun (x3, _) =>
    some (x3, h1))
    else (
    (if (x2 == 2) = true then (
    (L.asInt .i64 (rd h1 (.ptr (h).length 0 1) 0)).bind fun x4 =>
    (if (x4 == 0) = true then (
    some (true, h1))
    else (
    (L.asInt .i64 (rd h1 (.ptr (h).length 0 1) 0)).bind fun x7 =>
    some ((x7 == 1), h1))).bind fun (b5, h6) =>
    (if b5 = true then (
    (F308 N (true, false, false, false, false, (.ptr (h).length 0 0), h6)).bind fun (x10, _) =>
    some (x10, h6))
    else (
    some (false, h6))).bind fun (b8, h9) =>
    some (b8, h9))
    else (
    (if (x2 == 3) = true then (
    (L.asInt .i64 (rd h1 (.ptr (h).length 0 1) 0)).bind fun x11 =>
    (if (decide (x11 ≥ (-4611686018427387903))) = true then (
    (L.asInt .i64 (rd h1 (.ptr (h).length 0 1) 0)).bind fun x14 =>
    some ((decide (x14 ≤ 4611686018427387903)), h1))
    else (
    some (false, h1))).bind fun (b12, h13) =>
    (if b12 = true then (
    (F308 N (true, false, false, false, false, (.ptr (h).length 0 0), h13)).bind fun (x17, _) =>
    some (x17, h13))
    else (
    some (false, h13))).bind fun (b15, h16) =>
    some (b15, h16))
    else (
    (if (x2 == 4) = true then (
    (L.asCplx .f64 (rd h1 (.ptr (h).length 0 2) 0)).bind fun x18 =>
    (F309 100 (x18.1, [])).bind fun (x19, _) =>
    (if x19 = true then (
    (L.asCplx .f64 (rd h1 (.ptr (h).length 0 2) 0)).bind fun x22 =>
    (F309 100 (x22.2, [])).bind fun (x23, _) =>
    some (x23, h1))
    else (
    some (false, h1))).bind fun (b20, h21) =>
    (if b20 = true then (
    (F308 N (false, true, false, false, false, (.ptr (h).length 0 0), h21)).bind fun (x26, _) =>
    some (x26, h21))
    else (
    some (false, h21))).bind fun (b24, h25) =>
    some (b24, h25))
    else (
    (if (x2 == 5) = true then (
    (L.asStr (rd h1 (.ptr (h).length 0 3) 0)).bind fun x27 =>
    (F310 100 (x27, [])).bind fun (x28, _) =>
    (if x28 = true then (
    (F308 N (false, false, true, false, false, (.ptr (h).length 0 0), h1)).bind fun (x31, _) =>
    some (x31, h1))
    else (
    some (false, h1))).bind fun (b29, h30) =>
    some (b29, h30))
    else (
    (if (x2 == 6) = true then (
    (L.asInt .i64 (rd h1 (.ptr (h).length 0 4) 0)).bind fun x32 =>
    (if (decide (x32 ≥ 0)) = true then (
    (L.asInt .i64 (rd h1 (.ptr (h).length 0 4) 0)).bind fun x35 =>
    some ((decide (x35 < 256)), h1))
    else (
    some (false, h1))).bind fun (b33, h34) =>
    (if b33 = true then (
    (L.asInt .i64 (rd h34 (.ptr (h).length 0 5) 0)).bind fun x38 =>
    some ((decide (x38 ≥ 1)), h34))
    else (
    some (false, h34))).bind fun (b36, h37) =>
    (if b36 = true then (
    (L.asInt .i64 (rd h37 (.ptr (h).length 0 5) 0)).bind fun x41 =>
    some ((decide (x41 ≤ 4611686018427387903)), h37))
    else (
    some (false, h37))).bind fun (b39, h40) =>
    (if b39 = true then (
    (F308 N (false, false, false, true, false, (.ptr (h).length 0 0), h40)).bind fun (x44, _) =>
    some (x44, h40))
    else (
    some (false, h40))).bind fun (b42, h43) =>
    some (b42, h43))
    else (
    (if (x2 == 7) = true then (
    (L.asInt .i64 (rd h1 (.ptr (h).length 0 1) 0)).bind fun x45 =>
    (if (decide (x45 ≥ 1)) = true then (
    (L.asInt .i64 (rd h1 (.ptr (h).length 0 1) 0)).bind fun x48 =>
    some ((decide (x48 ≤ 4611686018427387903)), h1))
    else (
    some (false, h1))).bind fun (b46, h47) =>
    (if b46 = true then (
    (F308 N (true, false, false, false, false, (.ptr (h).length 0 0), h47)).bind fun (x51, _) =>
    some (x51, h47))
    else (
    some (false, h47))).bind fun (b49, h50) =>
    some (b49, h50))
    else (
    ((if (x2 == 8) = true then (
    some ((.ptr (h).length 0 0), (x2 == 8), h1))
    else (
    some ((.ptr (h).length 0 0), (x2 == 9), h1))) : Option (V × Bool × H)).bind fun (x52, x53, h54) =>
    (if x53 = true then (
    (F308 N (false, false, false, false, true, x52, h54)).bind fun (x55, _) =>
    some (x55, h54))
    else (
    some (false, h54)))))))))))))))))
abbrev ks235 : List SK := [.agg [(.int .i64), (.int .i64), (.cplx .f64), .str, (.int .i64), (.int .i64), .ref]]
abbrev rs235 : List SK := [.one .bool]
noncomputable def e235 (N : Nat) : Env := ⟨Tryz.prog, 111, inTab [], inTab [], natTab [], inTab [], calTab [(308, .ro (mkFun ks308 rs308 (F308 N))), (309, .pure (mkP ks309 rs309 (F309 100))), (310, .pure (mkP ks310 rs310 (F310 100)))], altTab [(4831838314, [⟨.normal, [3, 106], [.clo 308 [.ref], .one .bool], [], []⟩])], loopTab [], natTab []⟩
theorem fine235 (N : Nat) : Fine (e235 N) N 235 Tryz.f235 ks235 rs235 (F235 N) :=
  ⟨Tryz.func235, by kernel_rfl, by kernel_rfl, by kernel_rfl, loops_of trivial, by kernel_rfl, by kernel_rfl, fun _ => by kernel_rfl⟩
theorem good235 (N : Nat) : Go.L.Good (e235 N) := good_of ⟨gd308 N, ⟨gd309, ⟨gd310, trivial⟩⟩⟩
theorem gd235 (N : Nat) : CalOk Tryz.prog 235 (.full (mkFun ks235 rs235 (F235 N))) := mkFun_good (fine235 N) (good235 N)

/-! ### 168: term.walk -/
noncomputable def L168_0 (N : Nat) (rec : Int × Int × (Nat × Nat) × ByteArray × Int × Int × V × Int × V × V × H → Option (Int × H)) : Nat → Int × V × V × Int × Int × Int × Int × (Nat × Nat) × ByteArray × Int × Int × V × H → Option ((H) ⊕ (Int × H))
  | 0, _ => none
  | n + 1, (x34, x35, x36, x37, x38, x39, x40, x41, x42, x43, x44, x45, h46) =>
    (if (decide (x38 < x37)) = true then (
    (sidx x45 x38 7).bind fun q47 =>
    (L.asInt .i64 (rd h46 q47 0)).bind fun x48 =>
    (L.asInt .i64 (rd h46 q47 1)).bind fun x49 =>
    (L.asCplx .f64 (rd h46 q47 2)).bind fun x50 =>
    (L.asStr (rd h46 q47 3)).bind fun x51 =>
    (L.asInt .i64 (rd h46 q47 4)).bind fun x52 =>
    (L.asInt .i64 (rd h46 q47 5)).bind fun x53 =>
    ((rd h46 q47 6)).bind fun x54 =>
    (rec (x48, x49, (x50.1, x50.2), x51, x52, x53, x54, (IntKind.i64.wrap (x34 + 1)), x35, x36, h46)).bind fun (x55, h56) =>
    (if (x55 != 0) = true then (
    some (.inr (x55, h56)))
    else (
    L168_0 N rec n (x34, x35, x36, x37, (IntKind.i64.wrap (x38 + 1)), x39, x40, (x41.1, x41.2), x42, x43, x44, x45, h56))))
    else (
    some (.inl h46)))
noncomputable def F168 (N : Nat) : Nat → Int × Int × (Nat × Nat) × ByteArray × Int × Int × V × Int × V × V × H → Option (Int × H)
  | 0, _ => none
  | d + 1, (a0_0, a0_1, a0_2, a0_3, a0_4, a0_5, a0_6, a1, a2, a3, h) =>
    (nck a2).bind fun _ =>
    (L.asInt .i64 (rd h a2 0)).bind fun x1 =>
    (nck a2).bind fun _ =>
    (wr h a2 [(.int .i64 (IntKind.i64.wrap (x1 + 1)))]).bind fun h2 =>
    (nck a3).bind fun _ =>
    (L.asInt .i64 (rd h2 a3 0)).bind fun x3 =>
    (nck a3).bind fun _ =>
    (wr h2 a3 [(.int .i64 (if a1 > x3 then a1 else x3))]).bind fun h4 =>
    (nck a2).bind fun _ =>
    (L.asInt .i64 (rd h4 a2 0)).bind fun x5 =>
    (if (decide (x5 > 1024)) = true then (
    some (true, h4))
    else (
    some ((decide (a1 > 64)), h4))).bind fun (b6, h7) =>
    (if b6 = true then (
    some (34, h7))
    else (
    (F235 N (a0_0, a0_1, (a0_2.1, a0_2.2), a0_3, a0_4, a0_5, a0_6, h7)).bind fun (x8, h9) =>
    (if (!x8) = true then (
    some (30, h9))
    else (
    (slen a0_6).bind fun n10 =>
    (L168_0 N (F168 N d) N (a1, a2, a3, n10, 0, a0_0, a0_1, (a0_2.1, a0_2.2), a0_3, a0_4, a0_5, a0_6, h9)).bind fun o57 => match o57 with
    | .inl h58 => (
    some (0, h58))
    | .inr (x59, h60) => (
    some (x59, h60))))))
abbrev ks168 : List SK := [.agg [(.int .i64), (.int .i64), (.cplx .f64), .str, (.int .i64), (.int .i64), .ref], .one (.int .i64), .one .ref, .one .ref]
abbrev rs168 : List SK := [.one (.int .i64)]
noncomputable def e168 (N d : Nat) : Env := ⟨Tryz.prog, 54, inTab [4], inTab [], natTab [(4, 4), (34, 4), (40, 4)], inTab [], calTab [(235, .full (mkFun ks235 rs235 (F235 N))), (168, .full (mkFun ks168 rs168 (F168 N d)))], altTab [], loopTab [(8, ⟨⟨.normal, [1, 2, 3, 4, 36, 37], [.one (.int .i64), .one .ref, .one .ref, .lp 4 0, .one (.int .i64), .one (.int .i64)], [4], [.cells [(.int .i64), (.int .i64), (.cplx .f64), .str, (.int .i64), (.int .i64), .ref]]⟩, [⟨(.exit 0), [], [], [], []⟩, ⟨.ret, [8], [.one (.int .i64)], [], []⟩], L168_0 N (F168 N d)⟩)], natTab []⟩
theorem l168_0 (N d : Nat) : ∀ A, (e168 N d).lp (lid (loopAt Tryz.f168 0)) = some A → LoopOk (e168 N d) N (loopAt Tryz.f168 0) A :=
  loopOk_of (A := ⟨⟨.normal, [1, 2, 3, 4, 36, 37], [.one (.int .i64), .one .ref, .one .ref, .lp 4 0, .one (.int .i64), .one (.int .i64)], [4], [.cells [(.int .i64), (.int .i64), (.cplx .f64), .str, (.int .i64), (.int .i64), .ref]]⟩, [⟨(.exit 0), [], [], [], []⟩, ⟨.ret, [8], [.one (.int .i64)], [], []⟩], L168_0 N (F168 N d)⟩) (by kernel_rfl) (fun _ => rfl) (fun _ _ => by kernel_rfl)
theorem fine168 (N d : Nat) : Fine (e168 N d) N 168 Tryz.f168 ks168 rs168 (F168 N (d + 1)) :=
  ⟨Tryz.func168, by kernel_rfl, by kernel_rfl, by kernel_rfl, loops_of ⟨l168_0 N d, trivial⟩, by kernel_rfl, by kernel_rfl, fun _ => by kernel_rfl⟩
theorem gd168 (N : Nat) : ∀ d, CalOk Tryz.prog 168 (.full (mkFun ks168 rs168 (F168 N d)))
  | 0 => fun vs h s he => by obtain ⟨t, _, he⟩ := Option.bind_eq_some_iff.1 he; cases he
  | d + 1 => mkFun_good (fine168 N d) (good_of ⟨gd235 N, ⟨gd168 N d, trivial⟩⟩)
theorem good168 (N d : Nat) : Go.L.Good (e168 N d) := good_of ⟨gd235 N, ⟨gd168 N d, trivial⟩⟩

/-! ### 111: term.Parts -/
noncomputable def F111 (N : Nat) : Int × Int × (Nat × Nat) × ByteArray × Int × Int × V × H → Option (Int × Int × Int × H)
  | (a0_0, a0_1, a0_2, a0_3, a0_4, a0_5, a0_6, h) =>
    (some (h ++ [O.cells 0 [(.int .i64 0)]]) : Option H).bind fun h1 =>
    (some (h1 ++ [O.cells 0 [(.int .i64 0)]]) : Option H).bind fun h2 =>
    (F168 N N (a0_0, a0_1, (a0_2.1, a0_2.2), a0_3, a0_4, a0_5, a0_6, 1, (.ptr (h).length 0 0), (.ptr (h1).length 0 0), h2)).bind fun (x3, h4) =>
    (if (x3 != 0) = true then (
    (wr h4 (.ptr (h).length 0 0) [(.int .i64 0)]).bind fun h5 =>
    (wr h5 (.ptr (h1).length 0 0) [(.int .i64 0)]).bind fun h6 =>
    (L.asInt .i64 (rd h6 (.ptr (h).length 0 0) 0)).bind fun x7 =>
    (L.asInt .i64 (rd h6 (.ptr (h1).length 0 0) 0)).bind fun x8 =>
    some (x7, x8, x3, h6))
    else (
    (L.asInt .i64 (rd h4 (.ptr (h).length 0 0) 0)).bind fun x9 =>
    (L.asInt .i64 (rd h4 (.ptr (h1).length 0 0) 0)).bind fun x10 =>
    (wr h4 (.ptr (h).length 0 0) [(.int .i64 x9)]).bind fun h11 =>
    (wr h11 (.ptr (h1).length 0 0) [(.int .i64 x10)]).bind fun h12 =>
    (L.asInt .i64 (rd h12 (.ptr (h).length 0 0) 0)).bind fun x13 =>
    (L.asInt .i64 (rd h12 (.ptr (h1).length 0 0) 0)).bind fun x14 =>
    some (x13, x14, 0, h12)))
abbrev ks111 : List SK := [.agg [(.int .i64), (.int .i64), (.cplx .f64), .str, (.int .i64), (.int .i64), .ref]]
abbrev rs111 : List SK := [.one (.int .i64), .one (.int .i64), .one (.int .i64)]
noncomputable def e111 (N : Nat) : Env := ⟨Tryz.prog, 12, inTab [1], inTab [], natTab [(1, 1)], inTab [], calTab [(168, .full (mkFun ks168 rs168 (F168 N N)))], altTab [], loopTab [], natTab []⟩
theorem fine111 (N : Nat) : Fine (e111 N) N 111 Tryz.f111 ks111 rs111 (F111 N) :=
  ⟨Tryz.func111, by kernel_rfl, by kernel_rfl, by kernel_rfl, loops_of trivial, by kernel_rfl, by kernel_rfl, fun _ => by kernel_rfl⟩
theorem good111 (N : Nat) : Go.L.Good (e111 N) := good_of ⟨gd168 N N, trivial⟩
theorem gd111 (N : Nat) : CalOk Tryz.prog 111 (.full (mkFun ks111 rs111 (F111 N))) := mkFun_good (fine111 N) (good111 N)

/-! ### 52: term.Check -/
noncomputable def F52 (N : Nat) : Int × Int × (Nat × Nat) × ByteArray × Int × Int × V × H → Option (Int × H)
  | (a0_0, a0_1, a0_2, a0_3, a0_4, a0_5, a0_6, h) =>
    (F111 N (a0_0, a0_1, (a0_2.1, a0_2.2), a0_3, a0_4, a0_5, a0_6, h)).bind fun (x1, x2, x3, h4) =>
    some (x3, h4)
abbrev ks52 : List SK := [.agg [(.int .i64), (.int .i64), (.cplx .f64), .str, (.int .i64), (.int .i64), .ref]]
abbrev rs52 : List SK := [.one (.int .i64)]
noncomputable def e52 (N : Nat) : Env := ⟨Tryz.prog, 13, inTab [1], inTab [], natTab [(1, 1)], inTab [], calTab [(111, .full (mkFun ks111 rs111 (F111 N)))], altTab [], loopTab [], natTab []⟩
theorem fine52 (N : Nat) : Fine (e52 N) N 52 Tryz.f52 ks52 rs52 (F52 N) :=
  ⟨Tryz.func52, by kernel_rfl, by kernel_rfl, by kernel_rfl, loops_of trivial, by kernel_rfl, by kernel_rfl, fun _ => by kernel_rfl⟩
theorem good52 (N : Nat) : Go.L.Good (e52 N) := good_of ⟨gd111 N, trivial⟩
theorem gd52 (N : Nat) : CalOk Tryz.prog 52 (.full (mkFun ks52 rs52 (F52 N))) := mkFun_good (fine52 N) (good52 N)

/-! ### 26: frame.Stack).Push -/
noncomputable def F26 (N : Nat) : V × Int × Int × (Nat × Nat) × ByteArray × Int × Int × V × H → Option (Int × H)
  | (a0, a1_0, a1_1, a1_2, a1_3, a1_4, a1_5, a1_6, h) =>
    (F49 N (a0, h)).bind fun (x1, _) =>
    (if (!x1) = true then (
    some (1, h))
    else (
    (F52 N (a1_0, a1_1, (a1_2.1, a1_2.2), a1_3, a1_4, a1_5, a1_6, h)).bind fun (x2, h3) =>
    (if (x2 != 0) = true then (
    some (x2, h3))
    else (
    (nck a0).bind fun _ =>
    ((rd h3 (padd a0 2) 0)).bind fun x4 =>
    (slen x4).bind fun n5 =>
    (if (decide (n5 ≥ 256)) = true then (
    some (91, h3))
    else (
    (nck a0).bind fun _ =>
    ((rd h3 (padd a0 2) 0)).bind fun x6 =>
    (slen x6).bind fun n7 =>
    (happ h3 x6 7 1 [(.int .i64 0), (.int .i64 0), (.cplx .f64 0 0), (.str (ByteArray.mk #[])), (.int .i64 0), (.int .i64 0), .nils]).bind fun (v8, h9) =>
    (sidx v8 n7 7).bind fun q10 =>
    (nck a0).bind fun _ =>
    (wr h9 q10 [(.int .i64 a1_0), (.int .i64 a1_1), (.cplx .f64 a1_2.1 a1_2.2), (.str a1_3), (.int .i64 a1_4), (.int .i64 a1_5), a1_6]).bind fun h11 =>
    (ck1 v8).bind fun _ =>
    (wr h11 (padd a0 2) [v8]).bind fun h12 =>
    (sepS (.p q10) (.p (padd a0 2))).bind fun _ =>
    some (0, h12)))))))
abbrev ks26 : List SK := [.one .ref, .agg [(.int .i64), (.int .i64), (.cplx .f64), .str, (.int .i64), (.int .i64), .ref]]
abbrev rs26 : List SK := [.one (.int .i64)]
noncomputable def e26 (N : Nat) : Env := ⟨Tryz.prog, 31, inTab [3, 26], inTab [], natTab [(3, 3)], inTab [], calTab [(49, .ro (mkFun ks49 rs49 (F49 N))), (52, .full (mkFun ks52 rs52 (F52 N)))], altTab [], loopTab [], natTab []⟩
theorem fine26 (N : Nat) : Fine (e26 N) N 26 Tryz.f26 ks26 rs26 (F26 N) :=
  ⟨Tryz.func26, by kernel_rfl, by kernel_rfl, by kernel_rfl, loops_of trivial, by kernel_rfl, by kernel_rfl, fun _ => by kernel_rfl⟩
theorem good26 (N : Nat) : Go.L.Good (e26 N) := good_of ⟨gd49 N, ⟨gd52 N, trivial⟩⟩
theorem gd26 (N : Nat) : CalOk Tryz.prog 26 (.full (mkFun ks26 rs26 (F26 N))) := mkFun_good (fine26 N) (good26 N)

/-! ### 106: step.doing).leaves -/
noncomputable def F106 (N : Nat) : V × Int × Int × (Nat × Nat) × ByteArray × Int × Int × V × Int × H → Option (Int × H)
  | (a0, a1_0, a1_1, a1_2, a1_3, a1_4, a1_5, a1_6, a2, h) =>
    (if (a2 != 0) = true then (
    some (a2, h))
    else (
    (nck a0).bind fun _ =>
    ((rd h (padd a0 17) 0)).bind fun x1 =>
    (F26 N (x1, a1_0, a1_1, (a1_2.1, a1_2.2), a1_3, a1_4, a1_5, a1_6, h)).bind fun (x2, h3) =>
    some (x2, h3)))
abbrev ks106 : List SK := [.one .ref, .agg [(.int .i64), (.int .i64), (.cplx .f64), .str, (.int .i64), (.int .i64), .ref], .one (.int .i64)]
abbrev rs106 : List SK := [.one (.int .i64)]
noncomputable def e106 (N : Nat) : Env := ⟨Tryz.prog, 16, inTab [4], inTab [], natTab [(4, 4)], inTab [], calTab [(26, .full (mkFun ks26 rs26 (F26 N)))], altTab [], loopTab [], natTab []⟩
theorem fine106 (N : Nat) : Fine (e106 N) N 106 Tryz.f106 ks106 rs106 (F106 N) :=
  ⟨Tryz.func106, by kernel_rfl, by kernel_rfl, by kernel_rfl, loops_of trivial, by kernel_rfl, by kernel_rfl, fun _ => by kernel_rfl⟩
theorem good106 (N : Nat) : Go.L.Good (e106 N) := good_of ⟨gd26 N, trivial⟩
theorem gd106 (N : Nat) : CalOk Tryz.prog 106 (.full (mkFun ks106 rs106 (F106 N))) := mkFun_good (fine106 N) (good106 N)

/-! ### 76: step.doing).push -/
noncomputable def F76 (N : Nat) : V × H → Option (Int × H)
  | (a0, h) =>
    (nck a0).bind fun _ =>
    (L.asInt .i64 (rd h (padd (padd a0 6) 3) 0)).bind fun x1 =>
    (L.asInt .i64 (rd h (padd (padd a0 6) 3) 1)).bind fun x2 =>
    (L.asCplx .f64 (rd h (padd (padd a0 6) 3) 2)).bind fun x3 =>
    (L.asStr (rd h (padd (padd a0 6) 3) 3)).bind fun x4 =>
    (L.asInt .i64 (rd h (padd (padd a0 6) 3) 4)).bind fun x5 =>
    (L.asInt .i64 (rd h (padd (padd a0 6) 3) 5)).bind fun x6 =>
    ((rd h (padd (padd a0 6) 3) 6)).bind fun x7 =>
    (F106 N (a0, x1, x2, (x3.1, x3.2), x4, x5, x6, x7, 0, h)).bind fun (x8, h9) =>
    some (x8, h9)
abbrev ks76 : List SK := [.one .ref]
abbrev rs76 : List SK := [.one (.int .i64)]
noncomputable def e76 (N : Nat) : Env := ⟨Tryz.prog, 10, inTab [], inTab [], natTab [], inTab [], calTab [(106, .full (mkFun ks106 rs106 (F106 N)))], altTab [], loopTab [], natTab []⟩
theorem fine76 (N : Nat) : Fine (e76 N) N 76 Tryz.f76 ks76 rs76 (F76 N) :=
  ⟨Tryz.func76, by kernel_rfl, by kernel_rfl, by kernel_rfl, loops_of trivial, by kernel_rfl, by kernel_rfl, fun _ => by kernel_rfl⟩
theorem good76 (N : Nat) : Go.L.Good (e76 N) := good_of ⟨gd106 N, trivial⟩
theorem gd76 (N : Nat) : CalOk Tryz.prog 76 (.full (mkFun ks76 rs76 (F76 N))) := mkFun_good (fine76 N) (good76 N)

/-! ### 77: step.doing).pop -/
noncomputable def F77 (N : Nat) : V × H → Option (Int × H)
  | (a0, h) =>
    some (0, h)
abbrev ks77 : List SK := [.one .ref]
abbrev rs77 : List SK := [.one (.int .i64)]
noncomputable def e77 (N : Nat) : Env := ⟨Tryz.prog, 3, inTab [], inTab [], natTab [], inTab [], calTab [], altTab [], loopTab [], natTab []⟩
theorem fine77 (N : Nat) : Fine (e77 N) N 77 Tryz.f77 ks77 rs77 (F77 N) :=
  ⟨Tryz.func77, by kernel_rfl, by kernel_rfl, by kernel_rfl, loops_of trivial, by kernel_rfl, by kernel_rfl, fun _ => by kernel_rfl⟩
theorem good77 (N : Nat) : Go.L.Good (e77 N) := good_of trivial
theorem gd77 (N : Nat) : CalOk Tryz.prog 77 (.ro (mkFun ks77 rs77 (F77 N))) := mkFun_ro (fine77 N) (good77 N) (by kernel_rfl)

/-! ### 78: step.doing).dup -/
noncomputable def L78_0 (N : Nat) : Nat → V × V × Int × Int × H → Option ((V × H) ⊕ (Int × H))
  | 0, _ => none
  | n + 1, (x19, x20, x21, x22, h23) =>
    (if (decide (x22 < x21)) = true then (
    (sidx x20 x22 7).bind fun q24 =>
    (L.asInt .i64 (rd h23 q24 0)).bind fun x25 =>
    (L.asInt .i64 (rd h23 q24 1)).bind fun x26 =>
    (L.asCplx .f64 (rd h23 q24 2)).bind fun x27 =>
    (L.asStr (rd h23 q24 3)).bind fun x28 =>
    (L.asInt .i64 (rd h23 q24 4)).bind fun x29 =>
    (L.asInt .i64 (rd h23 q24 5)).bind fun x30 =>
    ((rd h23 q24 6)).bind fun x31 =>
    (nck x19).bind fun _ =>
    ((rd h23 (padd x19 17) 0)).bind fun x32 =>
    (F26 N (x32, x25, x26, (x27.1, x27.2), x28, x29, x30, x31, h23)).bind fun (x33, h34) =>
    (if (x33 != 0) = true then (
    some (.inr (x33, h34)))
    else (
    L78_0 N n (x19, x20, x21, (IntKind.i64.wrap (x22 + 1)), h34))))
    else (
    some (.inl (x19, h23))))
noncomputable def F78 (N : Nat) : V × H → Option (Int × H)
  | (a0, h) =>
    (nck a0).bind fun _ =>
    ((rd h (padd a0 18) 0)).bind fun x1 =>
    (slen x1).bind fun n2 =>
    (L78_0 N N (a0, x1, n2, 0, h)).bind fun o35 => match o35 with
    | .inl (x36, h37) => (
    (nck x36).bind fun _ =>
    ((rd h37 (padd x36 17) 0)).bind fun x38 =>
    (nck x36).bind fun _ =>
    ((rd h37 (padd x36 18) 0)).bind fun x39 =>
    (sidx x39 0 7).bind fun q40 =>
    (L.asInt .i64 (rd h37 q40 0)).bind fun x41 =>
    (L.asInt .i64 (rd h37 q40 1)).bind fun x42 =>
    (L.asCplx .f64 (rd h37 q40 2)).bind fun x43 =>
    (L.asStr (rd h37 q40 3)).bind fun x44 =>
    (L.asInt .i64 (rd h37 q40 4)).bind fun x45 =>
    (L.asInt .i64 (rd h37 q40 5)).bind fun x46 =>
    ((rd h37 q40 6)).bind fun x47 =>
    (F26 N (x38, x41, x42, (x43.1, x43.2), x44, x45, x46, x47, h37)).bind fun (x48, h49) =>
    some (x48, h49))
    | .inr (x50, h51) => (
    some (x50, h51))
abbrev ks78 : List SK := [.one .ref]
abbrev rs78 : List SK := [.one (.int .i64)]
noncomputable def e78 (N : Nat) : Env := ⟨Tryz.prog, 36, inTab [4], inTab [], natTab [(4, 4)], inTab [], calTab [(26, .full (mkFun ks26 rs26 (F26 N)))], altTab [], loopTab [(2, ⟨⟨.normal, [0, 9, 10, 11], [.one .ref, .one .ref, .one (.int .i64), .one (.int .i64)], [], []⟩, [⟨(.exit 0), [0], [.one .ref], [], []⟩, ⟨.ret, [2], [.one (.int .i64)], [], []⟩], L78_0 N⟩)], natTab []⟩
theorem l78_0 (N : Nat) : ∀ A, (e78 N).lp (lid (loopAt Tryz.f78 0)) = some A → LoopOk (e78 N) N (loopAt Tryz.f78 0) A :=
  loopOk_of (A := ⟨⟨.normal, [0, 9, 10, 11], [.one .ref, .one .ref, .one (.int .i64), .one (.int .i64)], [], []⟩, [⟨(.exit 0), [0], [.one .ref], [], []⟩, ⟨.ret, [2], [.one (.int .i64)], [], []⟩], L78_0 N⟩) (by kernel_rfl) (fun _ => rfl) (fun _ _ => by kernel_rfl)
theorem fine78 (N : Nat) : Fine (e78 N) N 78 Tryz.f78 ks78 rs78 (F78 N) :=
  ⟨Tryz.func78, by kernel_rfl, by kernel_rfl, by kernel_rfl, loops_of ⟨l78_0 N, trivial⟩, by kernel_rfl, by kernel_rfl, fun _ => by kernel_rfl⟩
theorem good78 (N : Nat) : Go.L.Good (e78 N) := good_of ⟨gd26 N, trivial⟩
theorem gd78 (N : Nat) : CalOk Tryz.prog 78 (.full (mkFun ks78 rs78 (F78 N))) := mkFun_good (fine78 N) (good78 N)

/-! ### 112: frame.Stack).Local -/
noncomputable def F112 (N : Nat) : V × Int × H → Option (Int × Int × (Nat × Nat) × ByteArray × Int × Int × V × Int × H)
  | (a0, a1, h) =>
    (F49 N (a0, h)).bind fun (x1, _) =>
    (if (!x1) = true then (
    some (0, 0, (0, 0), (ByteArray.mk #[]), 0, 0, .nils, 1, h))
    else (
    (F50 N (a0, h)).bind fun (x2, _) =>
    (isNil x2).bind fun b3 =>
    (if b3 = true then (
    some (0, 0, (0, 0), (ByteArray.mk #[]), 0, 0, .nils, 92, h))
    else (
    (if (decide (a1 < 0)) = true then (
    some (true, h))
    else (
    (nck x2).bind fun _ =>
    ((rd h (padd x2 2) 0)).bind fun x6 =>
    (slen x6).bind fun n7 =>
    some ((decide (a1 ≥ n7)), h))).bind fun (b4, h5) =>
    (if b4 = true then (
    some (0, 0, (0, 0), (ByteArray.mk #[]), 0, 0, .nils, 3, h5))
    else (
    (nck x2).bind fun _ =>
    ((rd h5 (padd x2 2) 0)).bind fun x8 =>
    (sidx x8 a1 7).bind fun q9 =>
    (L.asInt .i64 (rd h5 q9 0)).bind fun x10 =>
    (L.asInt .i64 (rd h5 q9 1)).bind fun x11 =>
    (L.asCplx .f64 (rd h5 q9 2)).bind fun x12 =>
    (L.asStr (rd h5 q9 3)).bind fun x13 =>
    (L.asInt .i64 (rd h5 q9 4)).bind fun x14 =>
    (L.asInt .i64 (rd h5 q9 5)).bind fun x15 =>
    ((rd h5 q9 6)).bind fun x16 =>
    some (x10, x11, (x12.1, x12.2), x13, x14, x15, x16, 0, h5)))))))
abbrev ks112 : List SK := [.one .ref, .one (.int .i64)]
abbrev rs112 : List SK := [.agg [(.int .i64), (.int .i64), (.cplx .f64), .str, (.int .i64), (.int .i64), .ref], .one (.int .i64)]
noncomputable def e112 (N : Nat) : Env := ⟨Tryz.prog, 35, inTab [4], inTab [], natTab [(4, 4)], inTab [], calTab [(49, .ro (mkFun ks49 rs49 (F49 N))), (50, .ro (mkFun ks50 rs50 (F50 N)))], altTab [], loopTab [], natTab []⟩
theorem fine112 (N : Nat) : Fine (e112 N) N 112 Tryz.f112 ks112 rs112 (F112 N) :=
  ⟨Tryz.func112, by kernel_rfl, by kernel_rfl, by kernel_rfl, loops_of trivial, by kernel_rfl, by kernel_rfl, fun _ => by kernel_rfl⟩
theorem good112 (N : Nat) : Go.L.Good (e112 N) := good_of ⟨gd49 N, ⟨gd50 N, trivial⟩⟩
theorem gd112 (N : Nat) : CalOk Tryz.prog 112 (.ro (mkFun ks112 rs112 (F112 N))) := mkFun_ro (fine112 N) (good112 N) (by kernel_rfl)

/-! ### 79: step.doing).load -/
noncomputable def F79 (N : Nat) : V × H → Option (Int × H)
  | (a0, h) =>
    (nck a0).bind fun _ =>
    ((rd h (padd a0 17) 0)).bind fun x1 =>
    (nck a0).bind fun _ =>
    (L.asInt .i64 (rd h (padd (padd a0 6) 1) 0)).bind fun x2 =>
    (F112 N (x1, x2, h)).bind fun (x3, x4, x5, x6, x7, x8, x9, x10, _) =>
    (F106 N (a0, x3, x4, (x5.1, x5.2), x6, x7, x8, x9, x10, h)).bind fun (x11, h12) =>
    some (x11, h12)
abbrev ks79 : List SK := [.one .ref]
abbrev rs79 : List SK := [.one (.int .i64)]
noncomputable def e79 (N : Nat) : Env := ⟨Tryz.prog, 17, inTab [], inTab [], natTab [], inTab [], calTab [(112, .ro (mkFun ks112 rs112 (F112 N))), (106, .full (mkFun ks106 rs106 (F106 N)))], altTab [], loopTab [], natTab []⟩
theorem fine79 (N : Nat) : Fine (e79 N) N 79 Tryz.f79 ks79 rs79 (F79 N) :=
  ⟨Tryz.func79, by kernel_rfl, by kernel_rfl, by kernel_rfl, loops_of trivial, by kernel_rfl, by kernel_rfl, fun _ => by kernel_rfl⟩
theorem good79 (N : Nat) : Go.L.Good (e79 N) := good_of ⟨gd112 N, ⟨gd106 N, trivial⟩⟩
theorem gd79 (N : Nat) : CalOk Tryz.prog 79 (.full (mkFun ks79 rs79 (F79 N))) := mkFun_good (fine79 N) (good79 N)

/-! ### 108: step.doing).y -/
noncomputable def F108 (N : Nat) : V × H → Option (Int × Int × (Nat × Nat) × ByteArray × Int × Int × V × H)
  | (a0, h) =>
    (nck a0).bind fun _ =>
    ((rd h (padd a0 18) 0)).bind fun x1 =>
    (nck a0).bind fun _ =>
    ((rd h (padd a0 18) 0)).bind fun x2 =>
    (slen x2).bind fun n3 =>
    (sidx x1 (IntKind.i64.wrap (n3 - 1)) 7).bind fun q4 =>
    (L.asInt .i64 (rd h q4 0)).bind fun x5 =>
    (L.asInt .i64 (rd h q4 1)).bind fun x6 =>
    (L.asCplx .f64 (rd h q4 2)).bind fun x7 =>
    (L.asStr (rd h q4 3)).bind fun x8 =>
    (L.asInt .i64 (rd h q4 4)).bind fun x9 =>
    (L.asInt .i64 (rd h q4 5)).bind fun x10 =>
    ((rd h q4 6)).bind fun x11 =>
    some (x5, x6, (x7.1, x7.2), x8, x9, x10, x11, h)
abbrev ks108 : List SK := [.one .ref]
abbrev rs108 : List SK := [.agg [(.int .i64), (.int .i64), (.cplx .f64), .str, (.int .i64), (.int .i64), .ref]]
noncomputable def e108 (N : Nat) : Env := ⟨Tryz.prog, 15, inTab [2], inTab [], natTab [(2, 2)], inTab [], calTab [], altTab [], loopTab [], natTab []⟩
theorem fine108 (N : Nat) : Fine (e108 N) N 108 Tryz.f108 ks108 rs108 (F108 N) :=
  ⟨Tryz.func108, by kernel_rfl, by kernel_rfl, by kernel_rfl, loops_of trivial, by kernel_rfl, by kernel_rfl, fun _ => by kernel_rfl⟩
theorem good108 (N : Nat) : Go.L.Good (e108 N) := good_of trivial
theorem gd108 (N : Nat) : CalOk Tryz.prog 108 (.ro (mkFun ks108 rs108 (F108 N))) := mkFun_ro (fine108 N) (good108 N) (by kernel_rfl)

/-! ### 113: frame.Stack).Set -/
noncomputable def F113 (N : Nat) : V × Int × Int × Int × (Nat × Nat) × ByteArray × Int × Int × V × H → Option (Int × H)
  | (a0, a1, a2_0, a2_1, a2_2, a2_3, a2_4, a2_5, a2_6, h) =>
    (F49 N (a0, h)).bind fun (x1, _) =>
    (if (!x1) = true then (
    some (1, h))
    else (
    (F50 N (a0, h)).bind fun (x2, _) =>
    (isNil x2).bind fun b3 =>
    (if b3 = true then (
    some (92, h))
    else (
    (F52 N (a2_0, a2_1, (a2_2.1, a2_2.2), a2_3, a2_4, a2_5, a2_6, h)).bind fun (x4, h5) =>
    (if (x4 != 0) = true then (
    some (x4, h5))
    else (
    (if (decide (a1 < 0)) = true then (
    some (true, h5))
    else (
    (nck x2).bind fun _ =>
    ((rd h5 (padd x2 2) 0)).bind fun x8 =>
    (slen x8).bind fun n9 =>
    some ((decide (a1 ≥ n9)), h5))).bind fun (b6, h7) =>
    (if b6 = true then (
    some (3, h7))
    else (
    (nck x2).bind fun _ =>
    ((rd h7 (padd x2 2) 0)).bind fun x10 =>
    (sidx x10 a1 7).bind fun q11 =>
    (wr h7 q11 [(.int .i64 a2_0), (.int .i64 a2_1), (.cplx .f64 a2_2.1 a2_2.2), (.str a2_3), (.int .i64 a2_4), (.int .i64 a2_5), a2_6]).bind fun h12 =>
    some (0, h12)))))))))
abbrev ks113 : List SK := [.one .ref, .one (.int .i64), .agg [(.int .i64), (.int .i64), (.cplx .f64), .str, (.int .i64), (.int .i64), .ref]]
abbrev rs113 : List SK := [.one (.int .i64)]
noncomputable def e113 (N : Nat) : Env := ⟨Tryz.prog, 39, inTab [5], inTab [], natTab [(5, 5)], inTab [], calTab [(49, .ro (mkFun ks49 rs49 (F49 N))), (50, .ro (mkFun ks50 rs50 (F50 N))), (52, .full (mkFun ks52 rs52 (F52 N)))], altTab [], loopTab [], natTab []⟩
theorem fine113 (N : Nat) : Fine (e113 N) N 113 Tryz.f113 ks113 rs113 (F113 N) :=
  ⟨Tryz.func113, by kernel_rfl, by kernel_rfl, by kernel_rfl, loops_of trivial, by kernel_rfl, by kernel_rfl, fun _ => by kernel_rfl⟩
theorem good113 (N : Nat) : Go.L.Good (e113 N) := good_of ⟨gd49 N, ⟨gd50 N, ⟨gd52 N, trivial⟩⟩⟩
theorem gd113 (N : Nat) : CalOk Tryz.prog 113 (.full (mkFun ks113 rs113 (F113 N))) := mkFun_good (fine113 N) (good113 N)

/-! ### 80: step.doing).store -/
noncomputable def F80 (N : Nat) : V × H → Option (Int × H)
  | (a0, h) =>
    (nck a0).bind fun _ =>
    ((rd h (padd a0 17) 0)).bind fun x1 =>
    (nck a0).bind fun _ =>
    (L.asInt .i64 (rd h (padd (padd a0 6) 1) 0)).bind fun x2 =>
    (F108 N (a0, h)).bind fun (x3, x4, x5, x6, x7, x8, x9, _) =>
    (F113 N (x1, x2, x3, x4, (x5.1, x5.2), x6, x7, x8, x9, h)).bind fun (x10, h11) =>
    some (x10, h11)
abbrev ks80 : List SK := [.one .ref]
abbrev rs80 : List SK := [.one (.int .i64)]
noncomputable def e80 (N : Nat) : Env := ⟨Tryz.prog, 15, inTab [], inTab [], natTab [], inTab [], calTab [(108, .ro (mkFun ks108 rs108 (F108 N))), (113, .full (mkFun ks113 rs113 (F113 N)))], altTab [], loopTab [], natTab []⟩
theorem fine80 (N : Nat) : Fine (e80 N) N 80 Tryz.f80 ks80 rs80 (F80 N) :=
  ⟨Tryz.func80, by kernel_rfl, by kernel_rfl, by kernel_rfl, loops_of trivial, by kernel_rfl, by kernel_rfl, fun _ => by kernel_rfl⟩
theorem good80 (N : Nat) : Go.L.Good (e80 N) := good_of ⟨gd108 N, ⟨gd113 N, trivial⟩⟩
theorem gd80 (N : Nat) : CalOk Tryz.prog 80 (.full (mkFun ks80 rs80 (F80 N))) := mkFun_good (fine80 N) (good80 N)

/-! ### 81: step.doing).kind -/
noncomputable def F81 (N : Nat) : V × H → Option (Int × H)
  | (a0, h) =>
    (F108 N (a0, h)).bind fun (x1, x2, x3, x4, x5, x6, x7, _) =>
    (nck a0).bind fun _ =>
    (L.asInt .i64 (rd h (padd (padd a0 6) 1) 0)).bind fun x8 =>
    ((if (x1 == x8) = true then (
    some (a0, 2, 1, (0, 0), (ByteArray.mk #[]), 0, 0, .nils, h))
    else (
    some (a0, 2, 0, (0, 0), (ByteArray.mk #[]), 0, 0, .nils, h))) : Option (V × Int × Int × (Nat × Nat) × ByteArray × Int × Int × V × H)).bind fun (x9, x10, x11, x12, x13, x14, x15, x16, h17) =>
    (F106 N (x9, x10, x11, (x12.1, x12.2), x13, x14, x15, x16, 0, h17)).bind fun (x18, h19) =>
    some (x18, h19)
abbrev ks81 : List SK := [.one .ref]
abbrev rs81 : List SK := [.one (.int .i64)]
noncomputable def e81 (N : Nat) : Env := ⟨Tryz.prog, 18, inTab [3], inTab [], natTab [(3, 3), (14, 3)], inTab [], calTab [(108, .ro (mkFun ks108 rs108 (F108 N))), (106, .full (mkFun ks106 rs106 (F106 N)))], altTab [(196621, [⟨.normal, [0, 3], [.one .ref, .lp 3 0], [3], [.cells [(.int .i64), (.int .i64), (.cplx .f64), .str, (.int .i64), (.int .i64), .ref]]⟩])], loopTab [], natTab []⟩
theorem fine81 (N : Nat) : Fine (e81 N) N 81 Tryz.f81 ks81 rs81 (F81 N) :=
  ⟨Tryz.func81, by kernel_rfl, by kernel_rfl, by kernel_rfl, loops_of trivial, by kernel_rfl, by kernel_rfl, fun _ => by kernel_rfl⟩
theorem good81 (N : Nat) : Go.L.Good (e81 N) := good_of ⟨gd108 N, ⟨gd106 N, trivial⟩⟩
theorem gd81 (N : Nat) : CalOk Tryz.prog 81 (.full (mkFun ks81 rs81 (F81 N))) := mkFun_good (fine81 N) (good81 N)

/-! ### 153: term.Make -/
noncomputable def L153_0 (N : Nat) : Nat → Int × V × Int × Int × Int × Int × (Nat × Nat) × ByteArray × Int × Int × V × H → Option ((Int × V × Int × Int × (Nat × Nat) × ByteArray × Int × Int × V × H) ⊕ (Int × Int × Int × (Nat × Nat) × ByteArray × Int × Int × V × H))
  | 0, _ => none
  | n + 1, (x26, x27, x28, x29, x30, x31, x32, x33, x34, x35, x36, h37) =>
    (if (decide (x29 < x28)) = true then (
    (sidx x27 x29 7).bind fun q38 =>
    (L.asInt .i64 (rd h37 q38 0)).bind fun x39 =>
    (L.asInt .i64 (rd h37 q38 1)).bind fun x40 =>
    (L.asCplx .f64 (rd h37 q38 2)).bind fun x41 =>
    (L.asStr (rd h37 q38 3)).bind fun x42 =>
    (L.asInt .i64 (rd h37 q38 4)).bind fun x43 =>
    (L.asInt .i64 (rd h37 q38 5)).bind fun x44 =>
    ((rd h37 q38 6)).bind fun x45 =>
    (F52 N (x39, x40, (x41.1, x41.2), x42, x43, x44, x45, h37)).bind fun (x46, h47) =>
    (if (x46 != 0) = true then (
    some (.inr (x46, 0, 0, (0, 0), (ByteArray.mk #[]), 0, 0, .nils, h47)))
    else (
    L153_0 N n (x26, x27, x28, (IntKind.i64.wrap (x29 + 1)), x30, x31, (x32.1, x32.2), x33, x34, x35, x36, h47))))
    else (
    some (.inl (x26, x27, x30, x31, (x32.1, x32.2), x33, x34, x35, x36, h37))))
noncomputable def F153 (N : Nat) : Int × V × H → Option (Int × Int × (Nat × Nat) × ByteArray × Int × Int × V × Int × H)
  | (a0, a1, h) =>
    (if (a0 != 8) = true then (
    some ((a0 != 9), h))
    else (
    some (false, h))).bind fun (b1, h2) =>
    (if b1 = true then (
    some (0, 0, (0, 0), (ByteArray.mk #[]), 0, 0, .nils, 1, h2))
    else (
    (slen a1).bind fun n3 =>
    (L153_0 N N (a0, a1, n3, 0, 0, 0, (0, 0), (ByteArray.mk #[]), 0, 0, .nils, h2)).bind fun o48 => match o48 with
    | .inl (x49, x50, x51, x52, x53, x54, x55, x56, x57, h58) => (
    (some (h58 ++ [O.cells 0 []]) : Option H).bind fun h59 =>
    (scells h59 x50 7).bind fun cs62 =>
    (happ h59 (.sl (h58).length 0 0 0 7 (some 0)) 7 (snlen x50) cs62).bind fun (v60, h61) =>
    (ck1 v60).bind fun _ =>
    (F52 N (x49, 0, (0, 0), (ByteArray.mk #[]), 0, 0, v60, h61)).bind fun (x63, h64) =>
    (if (x63 != 0) = true then (
    some (0, 0, (0, 0), (ByteArray.mk #[]), 0, 0, .nils, x63, h64))
    else (
    some (x49, 0, (0, 0), (ByteArray.mk #[]), 0, 0, v60, 0, h64))))
    | .inr (x65, x66, x67, x68, x69, x70, x71, x72, h73) => (
    some (x66, x67, (x68.1, x68.2), x69, x70, x71, x72, x65, h73))))
abbrev ks153 : List SK := [.one (.int .i64), .one .ref]
abbrev rs153 : List SK := [.agg [(.int .i64), (.int .i64), (.cplx .f64), .str, (.int .i64), (.int .i64), .ref], .one (.int .i64)]
noncomputable def e153 (N : Nat) : Env := ⟨Tryz.prog, 44, inTab [4, 8], inTab [], natTab [(4, 4), (8, 8)], inTab [], calTab [(52, .full (mkFun ks52 rs52 (F52 N)))], altTab [], loopTab [(4, ⟨⟨.normal, [0, 1, 4, 18, 19], [.one (.int .i64), .one .ref, .lp 4 0, .one (.int .i64), .one (.int .i64)], [4], [.cells [(.int .i64), (.int .i64), (.cplx .f64), .str, (.int .i64), (.int .i64), .ref]]⟩, [⟨(.exit 0), [0, 1, 4], [.one (.int .i64), .one .ref, .lp 4 0], [4], [.cells [(.int .i64), (.int .i64), (.cplx .f64), .str, (.int .i64), (.int .i64), .ref]]⟩, ⟨.ret, [4, 5], [.lp 4 0, .one (.int .i64)], [4], [.cells [(.int .i64), (.int .i64), (.cplx .f64), .str, (.int .i64), (.int .i64), .ref]]⟩], L153_0 N⟩)], natTab []⟩
theorem l153_0 (N : Nat) : ∀ A, (e153 N).lp (lid (loopAt Tryz.f153 0)) = some A → LoopOk (e153 N) N (loopAt Tryz.f153 0) A :=
  loopOk_of (A := ⟨⟨.normal, [0, 1, 4, 18, 19], [.one (.int .i64), .one .ref, .lp 4 0, .one (.int .i64), .one (.int .i64)], [4], [.cells [(.int .i64), (.int .i64), (.cplx .f64), .str, (.int .i64), (.int .i64), .ref]]⟩, [⟨(.exit 0), [0, 1, 4], [.one (.int .i64), .one .ref, .lp 4 0], [4], [.cells [(.int .i64), (.int .i64), (.cplx .f64), .str, (.int .i64), (.int .i64), .ref]]⟩, ⟨.ret, [4, 5], [.lp 4 0, .one (.int .i64)], [4], [.cells [(.int .i64), (.int .i64), (.cplx .f64), .str, (.int .i64), (.int .i64), .ref]]⟩], L153_0 N⟩) (by kernel_rfl) (fun _ => rfl) (fun _ _ => by kernel_rfl)
theorem fine153 (N : Nat) : Fine (e153 N) N 153 Tryz.f153 ks153 rs153 (F153 N) :=
  ⟨Tryz.func153, by kernel_rfl, by kernel_rfl, by kernel_rfl, loops_of ⟨l153_0 N, trivial⟩, by kernel_rfl, by kernel_rfl, fun _ => by kernel_rfl⟩
theorem good153 (N : Nat) : Go.L.Good (e153 N) := good_of ⟨gd52 N, trivial⟩
theorem gd153 (N : Nat) : CalOk Tryz.prog 153 (.full (mkFun ks153 rs153 (F153 N))) := mkFun_good (fine153 N) (good153 N)

/-! ### 82: step.doing).tuple -/
noncomputable def F82 (N : Nat) : V × H → Option (Int × H)
  | (a0, h) =>
    (nck a0).bind fun _ =>
    ((rd h (padd a0 18) 0)).bind fun x1 =>
    (F153 N (8, x1, h)).bind fun (x2, x3, x4, x5, x6, x7, x8, x9, h10) =>
    (F106 N (a0, x2, x3, (x4.1, x4.2), x5, x6, x7, x8, x9, h10)).bind fun (x11, h12) =>
    some (x11, h12)
abbrev ks82 : List SK := [.one .ref]
abbrev rs82 : List SK := [.one (.int .i64)]
noncomputable def e82 (N : Nat) : Env := ⟨Tryz.prog, 12, inTab [], inTab [], natTab [], inTab [], calTab [(153, .full (mkFun ks153 rs153 (F153 N))), (106, .full (mkFun ks106 rs106 (F106 N)))], altTab [], loopTab [], natTab []⟩
theorem fine82 (N : Nat) : Fine (e82 N) N 82 Tryz.f82 ks82 rs82 (F82 N) :=
  ⟨Tryz.func82, by kernel_rfl, by kernel_rfl, by kernel_rfl, loops_of trivial, by kernel_rfl, by kernel_rfl, fun _ => by kernel_rfl⟩
theorem good82 (N : Nat) : Go.L.Good (e82 N) := good_of ⟨gd153 N, ⟨gd106 N, trivial⟩⟩
theorem gd82 (N : Nat) : CalOk Tryz.prog 82 (.full (mkFun ks82 rs82 (F82 N))) := mkFun_good (fine82 N) (good82 N)

/-! ### 83: step.doing).list -/
noncomputable def F83 (N : Nat) : V × H → Option (Int × H)
  | (a0, h) =>
    (nck a0).bind fun _ =>
    ((rd h (padd a0 18) 0)).bind fun x1 =>
    (F153 N (9, x1, h)).bind fun (x2, x3, x4, x5, x6, x7, x8, x9, h10) =>
    (F106 N (a0, x2, x3, (x4.1, x4.2), x5, x6, x7, x8, x9, h10)).bind fun (x11, h12) =>
    some (x11, h12)
abbrev ks83 : List SK := [.one .ref]
abbrev rs83 : List SK := [.one (.int .i64)]
noncomputable def e83 (N : Nat) : Env := ⟨Tryz.prog, 12, inTab [], inTab [], natTab [], inTab [], calTab [(153, .full (mkFun ks153 rs153 (F153 N))), (106, .full (mkFun ks106 rs106 (F106 N)))], altTab [], loopTab [], natTab []⟩
theorem fine83 (N : Nat) : Fine (e83 N) N 83 Tryz.f83 ks83 rs83 (F83 N) :=
  ⟨Tryz.func83, by kernel_rfl, by kernel_rfl, by kernel_rfl, loops_of trivial, by kernel_rfl, by kernel_rfl, fun _ => by kernel_rfl⟩
theorem good83 (N : Nat) : Go.L.Good (e83 N) := good_of ⟨gd153 N, ⟨gd106 N, trivial⟩⟩
theorem gd83 (N : Nat) : CalOk Tryz.prog 83 (.full (mkFun ks83 rs83 (F83 N))) := mkFun_good (fine83 N) (good83 N)

/-! ### 84: step.doing).jump -/
noncomputable def F84 (N : Nat) : V × H → Option (Int × H)
  | (a0, h) =>
    (nck a0).bind fun _ =>
    (L.asInt .i64 (rd h (padd (padd a0 6) 1) 0)).bind fun x1 =>
    (nck a0).bind fun _ =>
    (wr h (padd a0 39) [(.int .i64 x1)]).bind fun h2 =>
    some (0, h2)
abbrev ks84 : List SK := [.one .ref]
abbrev rs84 : List SK := [.one (.int .i64)]
noncomputable def e84 (N : Nat) : Env := ⟨Tryz.prog, 11, inTab [], inTab [], natTab [], inTab [], calTab [], altTab [], loopTab [], natTab []⟩
theorem fine84 (N : Nat) : Fine (e84 N) N 84 Tryz.f84 ks84 rs84 (F84 N) :=
  ⟨Tryz.func84, by kernel_rfl, by kernel_rfl, by kernel_rfl, loops_of trivial, by kernel_rfl, by kernel_rfl, fun _ => by kernel_rfl⟩
theorem good84 (N : Nat) : Go.L.Good (e84 N) := good_of trivial
theorem gd84 (N : Nat) : CalOk Tryz.prog 84 (.full (mkFun ks84 rs84 (F84 N))) := mkFun_good (fine84 N) (good84 N)

/-! ### 154: step.want -/
noncomputable def L154_0 (N : Nat) : Nat → V × Int × Int × Int × Int × (Nat × Nat) × ByteArray × Int × Int × V × H → Option ((H) ⊕ (Int × H))
  | 0, _ => none
  | n + 1, (x15, x16, x17, x18, x19, x20, x21, x22, x23, x24, h25) =>
    (if (decide (x17 < x16)) = true then (
    (sidx x15 x17 1).bind fun q26 =>
    (L.asInt .i64 (rd h25 q26 0)).bind fun x27 =>
    (if (x18 == x27) = true then (
    some (.inr (0, h25)))
    else (
    L154_0 N n (x15, x16, (IntKind.i64.wrap (x17 + 1)), x18, x19, (x20.1, x20.2), x21, x22, x23, x24, h25))))
    else (
    some (.inl h25)))
noncomputable def F154 (N : Nat) : Int × Int × (Nat × Nat) × ByteArray × Int × Int × V × V × H → Option (Int × H)
  | (a0_0, a0_1, a0_2, a0_3, a0_4, a0_5, a0_6, a1, h) =>
    (slen a1).bind fun n1 =>
    (L154_0 N N (a1, n1, 0, a0_0, a0_1, (a0_2.1, a0_2.2), a0_3, a0_4, a0_5, a0_6, h)).bind fun o28 => match o28 with
    | .inl h29 => (
    some (32, h29))
    | .inr (x30, h31) => (
    some (x30, h31))
abbrev ks154 : List SK := [.agg [(.int .i64), (.int .i64), (.cplx .f64), .str, (.int .i64), (.int .i64), .ref], .one .ref]
abbrev rs154 : List SK := [.one (.int .i64)]
noncomputable def e154 (N : Nat) : Env := ⟨Tryz.prog, 18, inTab [2], inTab [], natTab [(2, 2), (13, 2)], inTab [], calTab [], altTab [], loopTab [(2, ⟨⟨.normal, [2, 7, 8, 9], [.lp 2 0, .one .ref, .one (.int .i64), .one (.int .i64)], [2], [.cells [(.int .i64), (.int .i64), (.cplx .f64), .str, (.int .i64), (.int .i64), .ref]]⟩, [⟨(.exit 0), [], [], [], []⟩, ⟨.ret, [4], [.one (.int .i64)], [], []⟩], L154_0 N⟩)], natTab []⟩
theorem l154_0 (N : Nat) : ∀ A, (e154 N).lp (lid (loopAt Tryz.f154 0)) = some A → LoopOk (e154 N) N (loopAt Tryz.f154 0) A :=
  loopOk_of (A := ⟨⟨.normal, [2, 7, 8, 9], [.lp 2 0, .one .ref, .one (.int .i64), .one (.int .i64)], [2], [.cells [(.int .i64), (.int .i64), (.cplx .f64), .str, (.int .i64), (.int .i64), .ref]]⟩, [⟨(.exit 0), [], [], [], []⟩, ⟨.ret, [4], [.one (.int .i64)], [], []⟩], L154_0 N⟩) (by kernel_rfl) (fun _ => rfl) (fun _ _ => by kernel_rfl)
theorem fine154 (N : Nat) : Fine (e154 N) N 154 Tryz.f154 ks154 rs154 (F154 N) :=
  ⟨Tryz.func154, by kernel_rfl, by kernel_rfl, by kernel_rfl, loops_of ⟨l154_0 N, trivial⟩, by kernel_rfl, by kernel_rfl, fun _ => by kernel_rfl⟩
theorem good154 (N : Nat) : Go.L.Good (e154 N) := good_of trivial
theorem gd154 (N : Nat) : CalOk Tryz.prog 154 (.ro (mkFun ks154 rs154 (F154 N))) := mkFun_ro (fine154 N) (good154 N) (by kernel_rfl)

/-! ### 85: step.doing).branch -/
noncomputable def F85 (N : Nat) : V × H → Option (Int × H)
  | (a0, h) =>
    (F108 N (a0, h)).bind fun (x1, x2, x3, x4, x5, x6, x7, _) =>
    (if (x1 == 2) = true then (
    (F108 N (a0, h)).bind fun (x10, x11, x12, x13, x14, x15, x16, _) =>
    some ((x11 == 1), h))
    else (
    some (false, h))).bind fun (b8, h9) =>
    ((if b8 = true then (
    (nck a0).bind fun _ =>
    (L.asInt .i64 (rd h9 (padd (padd a0 6) 1) 0)).bind fun x17 =>
    (nck a0).bind fun _ =>
    (wr h9 (padd a0 39) [(.int .i64 x17)]).bind fun h18 =>
    some (a0, h18))
    else (
    some (a0, h9))) : Option (V × H)).bind fun (x19, h20) =>
    (F108 N (x19, h20)).bind fun (x21, x22, x23, x24, x25, x26, x27, _) =>
    (some (h20 ++ [O.cells 0 [(.int .i64 2)]]) : Option H).bind fun h28 =>
    (F154 N (x21, x22, (x23.1, x23.2), x24, x25, x26, x27, (.sl (h20).length 0 0 1 1 (some 1)), h28)).bind fun (x29, _) =>
    some (x29, h28)
abbrev ks85 : List SK := [.one .ref]
abbrev rs85 : List SK := [.one (.int .i64)]
noncomputable def e85 (N : Nat) : Env := ⟨Tryz.prog, 25, inTab [], inTab [], natTab [], inTab [], calTab [(108, .ro (mkFun ks108 rs108 (F108 N))), (154, .ro (mkFun ks154 rs154 (F154 N)))], altTab [(131084, [⟨.normal, [0], [.one .ref], [], []⟩])], loopTab [], natTab []⟩
theorem fine85 (N : Nat) : Fine (e85 N) N 85 Tryz.f85 ks85 rs85 (F85 N) :=
  ⟨Tryz.func85, by kernel_rfl, by kernel_rfl, by kernel_rfl, loops_of trivial, by kernel_rfl, by kernel_rfl, fun _ => by kernel_rfl⟩
theorem good85 (N : Nat) : Go.L.Good (e85 N) := good_of ⟨gd108 N, ⟨gd154 N, trivial⟩⟩
theorem gd85 (N : Nat) : CalOk Tryz.prog 85 (.full (mkFun ks85 rs85 (F85 N))) := mkFun_good (fine85 N) (good85 N)

/-! ### 477: pattern.zero -/
noncomputable def F477 (N : Nat) : Int × Int × (Nat × Nat) × ByteArray × Int × Int × V × H → Option (Bool × H)
  | (a0_0, a0_1, a0_2, a0_3, a0_4, a0_5, a0_6, h) =>
    (if (a0_0 == 0) = true then (
    some ((a0_1 == 0), h))
    else (
    some (false, h))).bind fun (b1, h2) =>
    (if b1 = true then (
    some ((Op.floatEq .f64 a0_2.1 0 && Op.floatEq .f64 a0_2.2 0), h2))
    else (
    some (false, h2))).bind fun (b3, h4) =>
    (if b3 = true then (
    some (((a0_3).toList == ((ByteArray.mk #[])).toList), h4))
    else (
    some (false, h4))).bind fun (b5, h6) =>
    (if b5 = true then (
    some (((a0_4 == 0) && ((a0_5 == 0) && true)), h6))
    else (
    some (false, h6))).bind fun (b7, h8) =>
    (if b7 = true then (
    (slen a0_6).bind fun n11 =>
    some ((n11 == 0), h8))
    else (
    some (false, h8))).bind fun (b9, h10) =>
    some (b9, h10)
abbrev ks477 : List SK := [.agg [(.int .i64), (.int .i64), (.cplx .f64), .str, (.int .i64), (.int .i64), .ref]]
abbrev rs477 : List SK := [.one .bool]
noncomputable def e477 (N : Nat) : Env := ⟨Tryz.prog, 33, inTab [1], inTab [], natTab [(1, 1), (3, 1), (7, 1), (12, 1), (17, 1), (22, 1), (28, 1)], inTab [], calTab [], altTab [], loopTab [], natTab []⟩
theorem fine477 (N : Nat) : Fine (e477 N) N 477 Tryz.f477 ks477 rs477 (F477 N) :=
  ⟨Tryz.func477, by kernel_rfl, by kernel_rfl, by kernel_rfl, loops_of trivial, by kernel_rfl, by kernel_rfl, fun _ => by kernel_rfl⟩
theorem good477 (N : Nat) : Go.L.Good (e477 N) := good_of trivial
theorem gd477 (N : Nat) : CalOk Tryz.prog 477 (.ro (mkFun ks477 rs477 (F477 N))) := mkFun_ro (fine477 N) (good477 N) (by kernel_rfl)

/-! ### 558: slices.Index[[]int,int] -/
noncomputable def L558_0 (N : Nat) : Nat → V × Int × Int × Int × H → Option ((H) ⊕ (Int × H))
  | 0, _ => none
  | n + 1, (x9, x10, x11, x12, h13) =>
    (if (decide (x12 < x11)) = true then (
    (sidx x9 x12 1).bind fun q14 =>
    (L.asInt .i64 (rd h13 q14 0)).bind fun x15 =>
    (if (x10 == x15) = true then (
    some (.inr (x12, h13)))
    else (
    L558_0 N n (x9, x10, x11, (IntKind.i64.wrap (x12 + 1)), h13))))
    else (
    some (.inl h13)))
noncomputable def F558 (N : Nat) : V × Int × H → Option (Int × H)
  | (a0, a1, h) =>
    (slen a0).bind fun n1 =>
    (L558_0 N N (a0, a1, n1, 0, h)).bind fun o16 => match o16 with
    | .inl h17 => (
    some ((-1), h17))
    | .inr (x18, h19) => (
    some (x18, h19))
abbrev ks558 : List SK := [.one .ref, .one (.int .i64)]
abbrev rs558 : List SK := [.one (.int .i64)]
noncomputable def e558 (N : Nat) : Env := ⟨Tryz.prog, 19, inTab [], inTab [], natTab [], inTab [], calTab [], altTab [], loopTab [(2, ⟨⟨.normal, [0, 1, 7, 8], [.one .ref, .one (.int .i64), .one (.int .i64), .one (.int .i64)], [], []⟩, [⟨(.exit 0), [], [], [], []⟩, ⟨.ret, [4], [.one (.int .i64)], [], []⟩], L558_0 N⟩)], natTab []⟩
theorem l558_0 (N : Nat) : ∀ A, (e558 N).lp (lid (loopAt Tryz.f558 0)) = some A → LoopOk (e558 N) N (loopAt Tryz.f558 0) A :=
  loopOk_of (A := ⟨⟨.normal, [0, 1, 7, 8], [.one .ref, .one (.int .i64), .one (.int .i64), .one (.int .i64)], [], []⟩, [⟨(.exit 0), [], [], [], []⟩, ⟨.ret, [4], [.one (.int .i64)], [], []⟩], L558_0 N⟩) (by kernel_rfl) (fun _ => rfl) (fun _ _ => by kernel_rfl)
theorem fine558 (N : Nat) : Fine (e558 N) N 558 Tryz.f558 ks558 rs558 (F558 N) :=
  ⟨Tryz.func558, by kernel_rfl, by kernel_rfl, by kernel_rfl, loops_of ⟨l558_0 N, trivial⟩, by kernel_rfl, by kernel_rfl, fun _ => by kernel_rfl⟩
theorem good558 (N : Nat) : Go.L.Good (e558 N) := good_of trivial
theorem gd558 (N : Nat) : CalOk Tryz.prog 558 (.ro (mkFun ks558 rs558 (F558 N))) := mkFun_ro (fine558 N) (good558 N) (by kernel_rfl)

/-! ### 478: slices.Contains[[]int,int] -/
noncomputable def F478 (N : Nat) : V × Int × H → Option (Bool × H)
  | (a0, a1, h) =>
    (F558 N (a0, a1, h)).bind fun (x1, _) =>
    some ((decide (x1 ≥ 0)), h)
abbrev ks478 : List SK := [.one .ref, .one (.int .i64)]
abbrev rs478 : List SK := [.one .bool]
noncomputable def e478 (N : Nat) : Env := ⟨Tryz.prog, 9, inTab [], inTab [], natTab [], inTab [], calTab [(558, .ro (mkFun ks558 rs558 (F558 N)))], altTab [], loopTab [], natTab []⟩
theorem fine478 (N : Nat) : Fine (e478 N) N 478 Tryz.f478 ks478 rs478 (F478 N) :=
  ⟨Tryz.func478, by kernel_rfl, by kernel_rfl, by kernel_rfl, loops_of trivial, by kernel_rfl, by kernel_rfl, fun _ => by kernel_rfl⟩
theorem good478 (N : Nat) : Go.L.Good (e478 N) := good_of ⟨gd558 N, trivial⟩
theorem gd478 (N : Nat) : CalOk Tryz.prog 478 (.ro (mkFun ks478 rs478 (F478 N))) := mkFun_ro (fine478 N) (good478 N) (by kernel_rfl)

/-! ### 384: pattern.walker).own -/
noncomputable def F384 (N : Nat) : V × Int × Int × Int × Int × (Nat × Nat) × ByteArray × Int × Int × V × V × V × H → Option (Bool × H)
  | (a0, a1_0, a1_1, a1_2, a1_3, a1_4, a1_5, a1_6, a1_7, a1_8, a1_9, a1_10, h) =>
    (if (a1_0 != 3) = true then (
    (F477 N (a1_2, a1_3, (a1_4.1, a1_4.2), a1_5, a1_6, a1_7, a1_8, h)).bind fun (x3, _) =>
    some ((!x3), h))
    else (
    some (false, h))).bind fun (b1, h2) =>
    (if b1 = true then (
    some (false, h2))
    else (
    (if (a1_0 != 2) = true then (
    some ((a1_0 != 4), h2))
    else (
    some (false, h2))).bind fun (b4, h5) =>
    (if b4 = true then (
    some ((a1_1 != 0), h5))
    else (
    some (false, h5))).bind fun (b6, h7) =>
    (if b6 = true then (
    some (false, h7))
    else (
    (if (a1_0 != 5) = true then (
    some ((a1_0 != 6), h7))
    else (
    some (false, h7))).bind fun (b8, h9) =>
    (if b8 = true then (
    (slen a1_9).bind fun n12 =>
    some ((decide (n12 > 0)), h9))
    else (
    some (false, h9))).bind fun (b10, h11) =>
    (if b10 = true then (
    some (false, h11))
    else (
    (slen a1_10).bind fun n13 =>
    (if (decide (n13 > 1)) = true then (
    some (true, h11))
    else (
    (if (a1_0 != 6) = true then (
    (slen a1_10).bind fun n18 =>
    some ((decide (n18 > 0)), h11))
    else (
    some (false, h11))).bind fun (b16, h17) =>
    some (b16, h17))).bind fun (b14, h15) =>
    (if b14 = true then (
    some (false, h15))
    else (
    ((if (a1_0 == 1) = true then (
    some (a0, a1_0, (a1_0 == 1), a1_0, a1_1, a1_2, a1_3, (a1_4.1, a1_4.2), a1_5, a1_6, a1_7, a1_8, a1_9, a1_10, h15))
    else (
    (if (a1_0 == 5) = true then (
    some (a0, a1_0, (a1_0 == 5), a1_0, a1_1, a1_2, a1_3, (a1_4.1, a1_4.2), a1_5, a1_6, a1_7, a1_8, a1_9, a1_10, h15))
    else (
    some (a0, a1_0, (a1_0 == 6), a1_0, a1_1, a1_2, a1_3, (a1_4.1, a1_4.2), a1_5, a1_6, a1_7, a1_8, a1_9, a1_10, h15))))) : Option (V × Int × Bool × Int × Int × Int × Int × (Nat × Nat) × ByteArray × Int × Int × V × V × V × H)).bind fun (x19, x20, x21, x22, x23, x24, x25, x26, x27, x28, x29, x30, x31, x32, h33) =>
    (if x21 = true then (
    some (true, h33))
    else (
    (if (x20 == 2) = true then (
    (if (decide (x23 < 0)) = true then (
    some (true, h33))
    else (
    (nck x19).bind fun _ =>
    (L.asInt .i64 (rd h33 (padd x19 0) 0)).bind fun x36 =>
    some ((decide (x23 ≥ x36)), h33))).bind fun (b34, h35) =>
    (if b34 = true then (
    some (true, h35))
    else (
    (nck x19).bind fun _ =>
    ((rd h35 (padd x19 2) 0)).bind fun x39 =>
    (F478 N (x39, x23, h35)).bind fun (x40, _) =>
    some (x40, h35))).bind fun (b37, h38) =>
    (if b37 = true then (
    some (false, h38))
    else (
    (nck x19).bind fun _ =>
    ((rd h38 (padd x19 2) 0)).bind fun x41 =>
    (happ h38 x41 1 1 [(.int .i64 x23)]).bind fun (v42, h43) =>
    (nck x19).bind fun _ =>
    (ck1 v42).bind fun _ =>
    (wr h43 (padd x19 2) [v42]).bind fun h44 =>
    some (true, h44))))
    else (
    (if (x20 == 3) = true then (
    (if (x24 != 8) = true then (
    some ((x24 != 9), h33))
    else (
    some (false, h33))).bind fun (b45, h46) =>
    (if b45 = true then (
    (F52 N (x24, x25, (x26.1, x26.2), x27, x28, x29, x30, h46)).bind fun (x49, h50) =>
    some ((x49 == 0), h50))
    else (
    some (false, h46))).bind fun (b47, h48) =>
    some (b47, h48))
    else (
    (if (x20 == 4) = true then (
    (if (decide (x23 ≥ 1)) = true then (
    some ((decide (x23 ≤ 9)), h33))
    else (
    some (false, h33))).bind fun (b51, h52) =>
    some (b51, h52))
    else (
    some (false, h33)))))))))))))))))
abbrev ks384 : List SK := [.one .ref, .agg [(.int .i64), (.int .i64), (.int .i64), (.int .i64), (.cplx .f64), .str, (.int .i64), (.int .i64), .ref, .ref, .ref]]
abbrev rs384 : List SK := [.one .bool]
noncomputable def e384 (N : Nat) : Env := ⟨Tryz.prog, 124, inTab [3, 92], inTab [], natTab [(3, 3), (5, 3), (9, 3), (14, 3), (18, 3), (23, 3), (27, 3), (31, 3), (36, 3), (41, 3), (46, 3), (50, 3), (56, 3), (64, 3), (68, 3), (81, 3), (90, 3), (98, 3), (99, 3), (103, 3), (104, 3), (109, 3), (116, 3), (120, 3)], inTab [], calTab [(477, .ro (mkFun ks477 rs477 (F477 N))), (478, .ro (mkFun ks478 rs478 (F478 N))), (52, .full (mkFun ks52 rs52 (F52 N)))], altTab [(2952790074, [⟨.normal, [0, 3, 57, 58], [.one .ref, .lp 3 0, .one (.int .i64), .one .bool], [3], [.cells [(.int .i64), (.int .i64), (.int .i64), (.int .i64), (.cplx .f64), .str, (.int .i64), (.int .i64), .ref, .ref, .ref]]⟩])], loopTab [], natTab []⟩
theorem fine384 (N : Nat) : Fine (e384 N) N 384 Tryz.f384 ks384 rs384 (F384 N) :=
  ⟨Tryz.func384, by kernel_rfl, by kernel_rfl, by kernel_rfl, loops_of trivial, by kernel_rfl, by kernel_rfl, fun _ => by kernel_rfl⟩
theorem good384 (N : Nat) : Go.L.Good (e384 N) := good_of ⟨gd477 N, ⟨gd478 N, ⟨gd52 N, trivial⟩⟩⟩
theorem gd384 (N : Nat) : CalOk Tryz.prog 384 (.full (mkFun ks384 rs384 (F384 N))) := mkFun_good (fine384 N) (good384 N)

/-! ### 304: pattern.walker).walk -/
noncomputable def L304_1 (N : Nat) (rec : V × Int × Int × Int × Int × (Nat × Nat) × ByteArray × Int × Int × V × V × V × Int × H → Option (Int × H)) : Nat → V × Int × V × V × Int × Int × Int × Int × H → Option ((V × Int × V × Int × Int × H) ⊕ (Int × H))
  | 0, _ => none
  | n + 1, (x42, x43, x44, x45, x46, x47, x48, x49, h50) =>
    (if (decide (x49 < x48)) = true then (
    (sidx x44 x49 11).bind fun q51 =>
    (L.asInt .i64 (rd h50 q51 0)).bind fun x52 =>
    (L.asInt .i64 (rd h50 q51 1)).bind fun x53 =>
    (L.asInt .i64 (rd h50 q51 2)).bind fun x54 =>
    (L.asInt .i64 (rd h50 q51 3)).bind fun x55 =>
    (L.asCplx .f64 (rd h50 q51 4)).bind fun x56 =>
    (L.asStr (rd h50 q51 5)).bind fun x57 =>
    (L.asInt .i64 (rd h50 q51 6)).bind fun x58 =>
    (L.asInt .i64 (rd h50 q51 7)).bind fun x59 =>
    ((rd h50 q51 8)).bind fun x60 =>
    ((rd h50 q51 9)).bind fun x61 =>
    ((rd h50 q51 10)).bind fun x62 =>
    (rec (x42, x52, x53, x54, x55, (x56.1, x56.2), x57, x58, x59, x60, x61, x62, (IntKind.i64.wrap (x43 + 1)), h50)).bind fun (x63, h64) =>
    (if (x63 != 0) = true then (
    some (.inr (x63, h64)))
    else (
    L304_1 N rec n (x42, x43, x44, x45, x46, x47, x48, (IntKind.i64.wrap (x49 + 1)), h64))))
    else (
    some (.inl (x42, x43, x45, x46, x47, h50))))
noncomputable def L304_0 (N : Nat) (rec : V × Int × Int × Int × Int × (Nat × Nat) × ByteArray × Int × Int × V × V × V × Int × H → Option (Int × H)) : Nat → V × Int × V × Int × Int × H → Option ((H) ⊕ (Int × H))
  | 0, _ => none
  | n + 1, (x74, x75, x76, x77, x78, h79) =>
    (if (decide (x78 < x77)) = true then (
    (sidx x76 x78 1).bind fun q80 =>
    ((rd h79 q80 0)).bind fun x81 =>
    (slen x81).bind fun n82 =>
    (L304_1 N rec N (x74, x75, x81, x76, x77, x78, n82, 0, h79)).bind fun o83 => match o83 with
    | .inl (x84, x85, x86, x87, x88, h89) => (
    L304_0 N rec n (x84, x85, x86, x87, (IntKind.i64.wrap (x88 + 1)), h89))
    | .inr (x90, h91) => (
    some (.inr (x90, h91))))
    else (
    some (.inl h79)))
noncomputable def F304 (N : Nat) : Nat → V × Int × Int × Int × Int × (Nat × Nat) × ByteArray × Int × Int × V × V × V × Int × H → Option (Int × H)
  | 0, _ => none
  | d + 1, (a0, a1_0, a1_1, a1_2, a1_3, a1_4, a1_5, a1_6, a1_7, a1_8, a1_9, a1_10, a2, h) =>
    (nck a0).bind fun _ =>
    (L.asInt .i64 (rd h (padd a0 1) 0)).bind fun x1 =>
    (nck a0).bind fun _ =>
    (wr h (padd a0 1) [(.int .i64 (IntKind.i64.wrap (x1 + 1)))]).bind fun h2 =>
    (nck a0).bind fun _ =>
    (L.asInt .i64 (rd h2 (padd a0 1) 0)).bind fun x3 =>
    (if (decide (x3 > 1024)) = true then (
    some (true, h2))
    else (
    some ((decide (a2 > 64)), h2))).bind fun (b4, h5) =>
    (if b4 = true then (
    some (34, h5))
    else (
    (F384 N (a0, a1_0, a1_1, a1_2, a1_3, (a1_4.1, a1_4.2), a1_5, a1_6, a1_7, a1_8, a1_9, a1_10, h5)).bind fun (x6, h7) =>
    (if (!x6) = true then (
    some (50, h7))
    else (
    (ck1 a1_9).bind fun _ =>
    (ck1 a1_10).bind fun _ =>
    (some (h7 ++ [O.cells 0 [a1_9, a1_10]]) : Option H).bind fun h8 =>
    (slen (.sl (h7).length 0 0 2 1 (some 2))).bind fun n9 =>
    (L304_0 N (F304 N d) N (a0, a2, (.sl (h7).length 0 0 2 1 (some 2)), n9, 0, h8)).bind fun o92 => match o92 with
    | .inl h93 => (
    some (0, h93))
    | .inr (x94, h95) => (
    some (x94, h95))))))
abbrev ks304 : List SK := [.one .ref, .agg [(.int .i64), (.int .i64), (.int .i64), (.int .i64), (.cplx .f64), .str, (.int .i64), (.int .i64), .ref, .ref, .ref], .one (.int .i64)]
abbrev rs304 : List SK := [.one (.int .i64)]
noncomputable def e304 (N d : Nat) : Env := ⟨Tryz.prog, 59, inTab [4], inTab [], natTab [(4, 4), (31, 4), (33, 4)], inTab [], calTab [(384, .full (mkFun ks384 rs384 (F384 N))), (304, .full (mkFun ks304 rs304 (F304 N d)))], altTab [], loopTab [(7, ⟨⟨.normal, [0, 2, 35, 36, 37], [.one .ref, .one (.int .i64), .one .ref, .one (.int .i64), .one (.int .i64)], [], []⟩, [⟨(.exit 0), [], [], [], []⟩, ⟨.ret, [6], [.one (.int .i64)], [], []⟩], L304_0 N (F304 N d)⟩), (10, ⟨⟨.normal, [0, 2, 8, 35, 36, 37, 42, 43], [.one .ref, .one (.int .i64), .one .ref, .one .ref, .one (.int .i64), .one (.int .i64), .one (.int .i64), .one (.int .i64)], [], []⟩, [⟨(.exit 2), [0, 2, 35, 36, 37], [.one .ref, .one (.int .i64), .one .ref, .one (.int .i64), .one (.int .i64)], [], []⟩, ⟨.ret, [6], [.one (.int .i64)], [], []⟩], L304_1 N (F304 N d)⟩)], natTab []⟩
theorem l304_0 (N d : Nat) : ∀ A, (e304 N d).lp (lid (loopAt Tryz.f304 0)) = some A → LoopOk (e304 N d) N (loopAt Tryz.f304 0) A :=
  loopOk_of (A := ⟨⟨.normal, [0, 2, 35, 36, 37], [.one .ref, .one (.int .i64), .one .ref, .one (.int .i64), .one (.int .i64)], [], []⟩, [⟨(.exit 0), [], [], [], []⟩, ⟨.ret, [6], [.one (.int .i64)], [], []⟩], L304_0 N (F304 N d)⟩) (by kernel_rfl) (fun _ => rfl) (fun _ _ => by kernel_rfl)
theorem l304_1 (N d : Nat) : ∀ A, (e304 N d).lp (lid (loopAt Tryz.f304 1)) = some A → LoopOk (e304 N d) N (loopAt Tryz.f304 1) A :=
  loopOk_of (A := ⟨⟨.normal, [0, 2, 8, 35, 36, 37, 42, 43], [.one .ref, .one (.int .i64), .one .ref, .one .ref, .one (.int .i64), .one (.int .i64), .one (.int .i64), .one (.int .i64)], [], []⟩, [⟨(.exit 2), [0, 2, 35, 36, 37], [.one .ref, .one (.int .i64), .one .ref, .one (.int .i64), .one (.int .i64)], [], []⟩, ⟨.ret, [6], [.one (.int .i64)], [], []⟩], L304_1 N (F304 N d)⟩) (by kernel_rfl) (fun _ => rfl) (fun _ _ => by kernel_rfl)
theorem fine304 (N d : Nat) : Fine (e304 N d) N 304 Tryz.f304 ks304 rs304 (F304 N (d + 1)) :=
  ⟨Tryz.func304, by kernel_rfl, by kernel_rfl, by kernel_rfl, loops_of ⟨l304_0 N d, ⟨l304_1 N d, trivial⟩⟩, by kernel_rfl, by kernel_rfl, fun _ => by kernel_rfl⟩
theorem gd304 (N : Nat) : ∀ d, CalOk Tryz.prog 304 (.full (mkFun ks304 rs304 (F304 N d)))
  | 0 => fun vs h s he => by obtain ⟨t, _, he⟩ := Option.bind_eq_some_iff.1 he; cases he
  | d + 1 => mkFun_good (fine304 N d) (good_of ⟨gd384 N, ⟨gd304 N d, trivial⟩⟩)
theorem good304 (N d : Nat) : Go.L.Good (e304 N d) := good_of ⟨gd384 N, ⟨gd304 N d, trivial⟩⟩

/-! ### 229: pattern.Check -/
noncomputable def F229 (N : Nat) : Int × Int × Int × Int × (Nat × Nat) × ByteArray × Int × Int × V × V × V × Int × H → Option (Int × H)
  | (a0_0, a0_1, a0_2, a0_3, a0_4, a0_5, a0_6, a0_7, a0_8, a0_9, a0_10, a1, h) =>
    (some (h ++ [O.cells 0 [(.int .i64 0), (.int .i64 0), .nils]]) : Option H).bind fun h1 =>
    (wr h1 (.ptr (h).length 0 0) [(.int .i64 a1), (.int .i64 0), .nils]).bind fun h2 =>
    (F304 N N ((.ptr (h).length 0 0), a0_0, a0_1, a0_2, a0_3, (a0_4.1, a0_4.2), a0_5, a0_6, a0_7, a0_8, a0_9, a0_10, 1, h2)).bind fun (x3, h4) =>
    some (x3, h4)
abbrev ks229 : List SK := [.agg [(.int .i64), (.int .i64), (.int .i64), (.int .i64), (.cplx .f64), .str, (.int .i64), (.int .i64), .ref, .ref, .ref], .one (.int .i64)]
abbrev rs229 : List SK := [.one (.int .i64)]
noncomputable def e229 (N : Nat) : Env := ⟨Tryz.prog, 10, inTab [2], inTab [], natTab [(2, 2)], inTab [], calTab [(304, .full (mkFun ks304 rs304 (F304 N N)))], altTab [], loopTab [], natTab []⟩
theorem fine229 (N : Nat) : Fine (e229 N) N 229 Tryz.f229 ks229 rs229 (F229 N) :=
  ⟨Tryz.func229, by kernel_rfl, by kernel_rfl, by kernel_rfl, loops_of trivial, by kernel_rfl, by kernel_rfl, fun _ => by kernel_rfl⟩
theorem good229 (N : Nat) : Go.L.Good (e229 N) := good_of ⟨gd304 N N, trivial⟩
theorem gd229 (N : Nat) : CalOk Tryz.prog 229 (.full (mkFun ks229 rs229 (F229 N))) := mkFun_good (fine229 N) (good229 N)

/-! ### 163: term.both -/
noncomputable def F163 (N : Nat) : Int × Int × (Nat × Nat) × ByteArray × Int × Int × V × Int × Int × (Nat × Nat) × ByteArray × Int × Int × V × H → Option (Int × H)
  | (a0_0, a0_1, a0_2, a0_3, a0_4, a0_5, a0_6, a1_0, a1_1, a1_2, a1_3, a1_4, a1_5, a1_6, h) =>
    (F52 N (a0_0, a0_1, (a0_2.1, a0_2.2), a0_3, a0_4, a0_5, a0_6, h)).bind fun (x1, h2) =>
    (if (x1 != 0) = true then (
    some (x1, h2))
    else (
    (F52 N (a1_0, a1_1, (a1_2.1, a1_2.2), a1_3, a1_4, a1_5, a1_6, h2)).bind fun (x3, h4) =>
    some (x3, h4)))
abbrev ks163 : List SK := [.agg [(.int .i64), (.int .i64), (.cplx .f64), .str, (.int .i64), (.int .i64), .ref], .agg [(.int .i64), (.int .i64), (.cplx .f64), .str, (.int .i64), (.int .i64), .ref]]
abbrev rs163 : List SK := [.one (.int .i64)]
noncomputable def e163 (N : Nat) : Env := ⟨Tryz.prog, 13, inTab [2, 3], inTab [], natTab [(2, 2), (3, 3)], inTab [], calTab [(52, .full (mkFun ks52 rs52 (F52 N)))], altTab [], loopTab [], natTab []⟩
theorem fine163 (N : Nat) : Fine (e163 N) N 163 Tryz.f163 ks163 rs163 (F163 N) :=
  ⟨Tryz.func163, by kernel_rfl, by kernel_rfl, by kernel_rfl, loops_of trivial, by kernel_rfl, by kernel_rfl, fun _ => by kernel_rfl⟩
theorem good163 (N : Nat) : Go.L.Good (e163 N) := good_of ⟨gd52 N, trivial⟩
theorem gd163 (N : Nat) : CalOk Tryz.prog 163 (.full (mkFun ks163 rs163 (F163 N))) := mkFun_good (fine163 N) (good163 N)

/-! ### 231: term.sign -/
noncomputable def F231 (N : Nat) : Bool × Bool × H → Option (Int × H)
  | (a0, a1, h) =>
    (if a1 = true then (
    some (0, h))
    else (
    (if a0 = true then (
    some ((-1), h))
    else (
    some (1, h)))))
abbrev ks231 : List SK := [.one .bool, .one .bool]
abbrev rs231 : List SK := [.one (.int .i64)]
noncomputable def e231 (N : Nat) : Env := ⟨Tryz.prog, 9, inTab [], inTab [], natTab [], inTab [], calTab [], altTab [], loopTab [], natTab []⟩
theorem fine231 (N : Nat) : Fine (e231 N) N 231 Tryz.f231 ks231 rs231 (F231 N) :=
  ⟨Tryz.func231, by kernel_rfl, by kernel_rfl, by kernel_rfl, loops_of trivial, by kernel_rfl, by kernel_rfl, fun _ => by kernel_rfl⟩
theorem good231 (N : Nat) : Go.L.Good (e231 N) := good_of trivial
theorem gd231 : CalOk Tryz.prog 231 (.pure (mkP ks231 rs231 (F231 100))) := mkP_good (fine231 100) (good231 100) (by kernel_rfl) (by kernel_rfl)

/-! ### 385: bytealg.abigen_runtime_cmpstring -/
set_option maxRecDepth 100000 in
theorem gd385 : CalOk Tryz.prog 385 (.ext (mkP [.one .str, .one .str] [.one (.int .i64)] cmpX)) := ext_cmp Tryz.func385 (by kernel_rfl) (by kernel_rfl) (by kernel_rfl) (by kernel_rfl)

/-! ### 306: bytealg.CompareString -/
noncomputable def F306 (N : Nat) : ByteArray × ByteArray × H → Option (Int × H)
  | (a0, a1, h) =>
    (cmpX (a0, a1, [])).bind fun (x1, _) =>
    some (x1, h)
abbrev ks306 : List SK := [.one .str, .one .str]
abbrev rs306 : List SK := [.one (.int .i64)]
noncomputable def e306 (N : Nat) : Env := ⟨Tryz.prog, 8, inTab [], inTab [], natTab [], inTab [], calTab [(385, .ext (mkP [.one .str, .one .str] [.one (.int .i64)] cmpX))], altTab [], loopTab [], natTab []⟩
theorem fine306 (N : Nat) : Fine (e306 N) N 306 Tryz.f306 ks306 rs306 (F306 N) :=
  ⟨Tryz.func306, by kernel_rfl, by kernel_rfl, by kernel_rfl, loops_of trivial, by kernel_rfl, by kernel_rfl, fun _ => by kernel_rfl⟩
theorem good306 (N : Nat) : Go.L.Good (e306 N) := good_of ⟨gd385, trivial⟩
theorem gd306 : CalOk Tryz.prog 306 (.pure (mkP ks306 rs306 (F306 100))) := mkP_good (fine306 100) (good306 100) (by kernel_rfl) (by kernel_rfl)

/-! ### 232: strings.Compare -/
noncomputable def F232 (N : Nat) : ByteArray × ByteArray × H → Option (Int × H)
  | (a0, a1, h) =>
    (F306 100 (a0, a1, [])).bind fun (x1, _) =>
    some (x1, h)
abbrev ks232 : List SK := [.one .str, .one .str]
abbrev rs232 : List SK := [.one (.int .i64)]
noncomputable def e232 (N : Nat) : Env := ⟨Tryz.prog, 8, inTab [], inTab [], natTab [], inTab [], calTab [(306, .pure (mkP ks306 rs306 (F306 100)))], altTab [], loopTab [], natTab []⟩
theorem fine232 (N : Nat) : Fine (e232 N) N 232 Tryz.f232 ks232 rs232 (F232 N) :=
  ⟨Tryz.func232, by kernel_rfl, by kernel_rfl, by kernel_rfl, loops_of trivial, by kernel_rfl, by kernel_rfl, fun _ => by kernel_rfl⟩
theorem good232 (N : Nat) : Go.L.Good (e232 N) := good_of ⟨gd306, trivial⟩
theorem gd232 : CalOk Tryz.prog 232 (.pure (mkP ks232 rs232 (F232 100))) := mkP_good (fine232 100) (good232 100) (by kernel_rfl) (by kernel_rfl)

/-! ### 164: term.order -/
noncomputable def L164_0 (N : Nat) (rec : Int × Int × (Nat × Nat) × ByteArray × Int × Int × V × Int × Int × (Nat × Nat) × ByteArray × Int × Int × V × H → Option (Int × H)) : Nat → Int × Int × Int × (Nat × Nat) × ByteArray × Int × Int × V × Int × Int × (Nat × Nat) × ByteArray × Int × Int × V × H → Option ((Int × Int × (Nat × Nat) × ByteArray × Int × Int × V × Int × Int × (Nat × Nat) × ByteArray × Int × Int × V × H) ⊕ (Int × H))
  | 0, _ => none
  | n + 1, (x62, x63, x64, x65, x66, x67, x68, x69, x70, x71, x72, x73, x74, x75, x76, h77) =>
    (slen x69).bind fun n78 =>
    (if (decide (x62 < n78)) = true then (
    (slen x76).bind fun n81 =>
    some ((decide (x62 < n81)), h77))
    else (
    some (false, h77))).bind fun (b79, h80) =>
    (if b79 = true then (
    (sidx x69 x62 7).bind fun q82 =>
    (L.asInt .i64 (rd h80 q82 0)).bind fun x83 =>
    (L.asInt .i64 (rd h80 q82 1)).bind fun x84 =>
    (L.asCplx .f64 (rd h80 q82 2)).bind fun x85 =>
    (L.asStr (rd h80 q82 3)).bind fun x86 =>
    (L.asInt .i64 (rd h80 q82 4)).bind fun x87 =>
    (L.asInt .i64 (rd h80 q82 5)).bind fun x88 =>
    ((rd h80 q82 6)).bind fun x89 =>
    (sidx x76 x62 7).bind fun q90 =>
    (L.asInt .i64 (rd h80 q90 0)).bind fun x91 =>
    (L.asInt .i64 (rd h80 q90 1)).bind fun x92 =>
    (L.asCplx .f64 (rd h80 q90 2)).bind fun x93 =>
    (L.asStr (rd h80 q90 3)).bind fun x94 =>
    (L.asInt .i64 (rd h80 q90 4)).bind fun x95 =>
    (L.asInt .i64 (rd h80 q90 5)).bind fun x96 =>
    ((rd h80 q90 6)).bind fun x97 =>
    (rec (x83, x84, (x85.1, x85.2), x86, x87, x88, x89, x91, x92, (x93.1, x93.2), x94, x95, x96, x97, h80)).bind fun (x98, _) =>
    (if (x98 != 0) = true then (
    some (.inr (x98, h80)))
    else (
    L164_0 N rec n ((IntKind.i64.wrap (x62 + 1)), x63, x64, (x65.1, x65.2), x66, x67, x68, x69, x70, x71, (x72.1, x72.2), x73, x74, x75, x76, h80))))
    else (
    some (.inl (x63, x64, (x65.1, x65.2), x66, x67, x68, x69, x70, x71, (x72.1, x72.2), x73, x74, x75, x76, h80))))
noncomputable def F164 (N : Nat) : Nat → Int × Int × (Nat × Nat) × ByteArray × Int × Int × V × Int × Int × (Nat × Nat) × ByteArray × Int × Int × V × H → Option (Int × H)
  | 0, _ => none
  | d + 1, (a0_0, a0_1, a0_2, a0_3, a0_4, a0_5, a0_6, a1_0, a1_1, a1_2, a1_3, a1_4, a1_5, a1_6, h) =>
    (if (a0_0 != a1_0) = true then (
    (F231 100 ((decide (a0_0 < a1_0)), false, [])).bind fun (x1, _) =>
    some (x1, h))
    else (
    ((if (a0_0 == 2) = true then (
    some (a0_0, (a0_0 == 2), a0_0, a0_1, (a0_2.1, a0_2.2), a0_3, a0_4, a0_5, a0_6, a1_0, a1_1, (a1_2.1, a1_2.2), a1_3, a1_4, a1_5, a1_6, h))
    else (
    (if (a0_0 == 3) = true then (
    some (a0_0, (a0_0 == 3), a0_0, a0_1, (a0_2.1, a0_2.2), a0_3, a0_4, a0_5, a0_6, a1_0, a1_1, (a1_2.1, a1_2.2), a1_3, a1_4, a1_5, a1_6, h))
    else (
    some (a0_0, (a0_0 == 7), a0_0, a0_1, (a0_2.1, a0_2.2), a0_3, a0_4, a0_5, a0_6, a1_0, a1_1, (a1_2.1, a1_2.2), a1_3, a1_4, a1_5, a1_6, h))))) : Option (Int × Bool × Int × Int × (Nat × Nat) × ByteArray × Int × Int × V × Int × Int × (Nat × Nat) × ByteArray × Int × Int × V × H)).bind fun (x2, x3, x4, x5, x6, x7, x8, x9, x10, x11, x12, x13, x14, x15, x16, x17, h18) =>
    (if x3 = true then (
    (F231 100 ((decide (x5 < x12)), (x5 == x12), [])).bind fun (x19, _) =>
    some (x19, h18))
    else (
    (if (x2 == 4) = true then (
    (if ((FloatKind.f64.format.order x6.1 x13.1) != some .eq) = true then (
    (F231 100 (((FloatKind.f64.format.order x6.1 x13.1) == some .lt), false, [])).bind fun (x20, _) =>
    some (x20, h18))
    else (
    (F231 100 (((FloatKind.f64.format.order x6.2 x13.2) == some .lt), (Op.floatEq .f64 x6.1 x13.1 && Op.floatEq .f64 x6.2 x13.2), [])).bind fun (x21, _) =>
    some (x21, h18))))
    else (
    (if (x2 == 5) = true then (
    (F232 100 (x7, x14, [])).bind fun (x22, _) =>
    some (x22, h18))
    else (
    (if (x2 == 6) = true then (
    (if (x8 != x15) = true then (
    (F231 100 ((decide (x8 < x15)), false, [])).bind fun (x23, _) =>
    some (x23, h18))
    else (
    (F231 100 ((decide (x9 < x16)), ((x8 == x15) && ((x9 == x16) && true)), [])).bind fun (x24, _) =>
    some (x24, h18))))
    else (
    (L164_0 N (F164 N d) N (0, x4, x5, (x6.1, x6.2), x7, x8, x9, x10, x11, x12, (x13.1, x13.2), x14, x15, x16, x17, h18)).bind fun o99 => match o99 with
    | .inl (x100, x101, x102, x103, x104, x105, x106, x107, x108, x109, x110, x111, x112, x113, h114) => (
    (slen x106).bind fun n115 =>
    (slen x113).bind fun n116 =>
    (slen x106).bind fun n117 =>
    (slen x113).bind fun n118 =>
    (F231 100 ((decide (n115 < n116)), (n117 == n118), [])).bind fun (x119, _) =>
    some (x119, h114))
    | .inr (x120, h121) => (
    some (x120, h121))))))))))))
abbrev ks164 : List SK := [.agg [(.int .i64), (.int .i64), (.cplx .f64), .str, (.int .i64), (.int .i64), .ref], .agg [(.int .i64), (.int .i64), (.cplx .f64), .str, (.int .i64), (.int .i64), .ref]]
abbrev rs164 : List SK := [.one (.int .i64)]
noncomputable def e164 (N d : Nat) : Env := ⟨Tryz.prog, 145, inTab [2, 3], inTab [], natTab [(2, 2), (3, 3), (7, 2), (9, 3), (12, 2), (14, 3), (18, 2), (24, 2), (26, 3), (29, 2), (31, 3), (37, 2), (40, 3), (44, 2), (47, 3), (52, 2), (55, 3), (59, 2), (61, 3), (67, 2), (69, 3), (74, 2), (75, 2), (77, 3), (78, 3), (81, 2), (82, 2), (84, 3), (85, 3), (89, 2), (90, 2), (92, 3), (93, 3), (96, 2), (98, 3), (103, 2), (109, 3), (116, 2), (121, 3), (130, 2), (133, 3), (137, 2), (140, 3)], inTab [], calTab [(231, .pure (mkP ks231 rs231 (F231 100))), (232, .pure (mkP ks232 rs232 (F232 100))), (164, .ro (mkFun ks164 rs164 (F164 N d)))], altTab [(1342177300, [⟨.normal, [2, 3, 19, 20], [.lp 2 0, .lp 3 0, .one (.int .i64), .one .bool], [2, 3], [.cells [(.int .i64), (.int .i64), (.cplx .f64), .str, (.int .i64), (.int .i64), .ref], .cells [(.int .i64), (.int .i64), (.cplx .f64), .str, (.int .i64), (.int .i64), .ref]]⟩])], loopTab [(19, ⟨⟨.normal, [2, 3, 5], [.lp 2 0, .lp 3 0, .one (.int .i64)], [2, 3], [.cells [(.int .i64), (.int .i64), (.cplx .f64), .str, (.int .i64), (.int .i64), .ref], .cells [(.int .i64), (.int .i64), (.cplx .f64), .str, (.int .i64), (.int .i64), .ref]]⟩, [⟨(.exit 1), [2, 3], [.lp 2 0, .lp 3 0], [2, 3], [.cells [(.int .i64), (.int .i64), (.cplx .f64), .str, (.int .i64), (.int .i64), .ref], .cells [(.int .i64), (.int .i64), (.cplx .f64), .str, (.int .i64), (.int .i64), .ref]]⟩, ⟨.ret, [4], [.one (.int .i64)], [], []⟩], L164_0 N (F164 N d)⟩)], natTab []⟩
theorem l164_0 (N d : Nat) : ∀ A, (e164 N d).lp (lid (loopAt Tryz.f164 0)) = some A → LoopOk (e164 N d) N (loopAt Tryz.f164 0) A :=
  loopOk_of (A := ⟨⟨.normal, [2, 3, 5], [.lp 2 0, .lp 3 0, .one (.int .i64)], [2, 3], [.cells [(.int .i64), (.int .i64), (.cplx .f64), .str, (.int .i64), (.int .i64), .ref], .cells [(.int .i64), (.int .i64), (.cplx .f64), .str, (.int .i64), (.int .i64), .ref]]⟩, [⟨(.exit 1), [2, 3], [.lp 2 0, .lp 3 0], [2, 3], [.cells [(.int .i64), (.int .i64), (.cplx .f64), .str, (.int .i64), (.int .i64), .ref], .cells [(.int .i64), (.int .i64), (.cplx .f64), .str, (.int .i64), (.int .i64), .ref]]⟩, ⟨.ret, [4], [.one (.int .i64)], [], []⟩], L164_0 N (F164 N d)⟩) (by kernel_rfl) (fun _ => rfl) (fun _ _ => by kernel_rfl)
theorem fine164 (N d : Nat) : Fine (e164 N d) N 164 Tryz.f164 ks164 rs164 (F164 N (d + 1)) :=
  ⟨Tryz.func164, by kernel_rfl, by kernel_rfl, by kernel_rfl, loops_of ⟨l164_0 N d, trivial⟩, by kernel_rfl, by kernel_rfl, fun _ => by kernel_rfl⟩
theorem gd164 (N : Nat) : ∀ d, CalOk Tryz.prog 164 (.ro (mkFun ks164 rs164 (F164 N d)))
  | 0 => fun vs h s he => by obtain ⟨t, _, he⟩ := Option.bind_eq_some_iff.1 he; cases he
  | d + 1 => mkFun_ro (fine164 N d) (good_of ⟨gd231, ⟨gd232, ⟨gd164 N d, trivial⟩⟩⟩) (by kernel_rfl)
theorem good164 (N d : Nat) : Go.L.Good (e164 N d) := good_of ⟨gd231, ⟨gd232, ⟨gd164 N d, trivial⟩⟩⟩

/-! ### 305: term.Compare -/
noncomputable def F305 (N : Nat) : Int × Int × (Nat × Nat) × ByteArray × Int × Int × V × Int × Int × (Nat × Nat) × ByteArray × Int × Int × V × H → Option (Int × Int × H)
  | (a0_0, a0_1, a0_2, a0_3, a0_4, a0_5, a0_6, a1_0, a1_1, a1_2, a1_3, a1_4, a1_5, a1_6, h) =>
    (F163 N (a0_0, a0_1, (a0_2.1, a0_2.2), a0_3, a0_4, a0_5, a0_6, a1_0, a1_1, (a1_2.1, a1_2.2), a1_3, a1_4, a1_5, a1_6, h)).bind fun (x1, h2) =>
    (if (x1 != 0) = true then (
    some (0, x1, h2))
    else (
    (F164 N N (a0_0, a0_1, (a0_2.1, a0_2.2), a0_3, a0_4, a0_5, a0_6, a1_0, a1_1, (a1_2.1, a1_2.2), a1_3, a1_4, a1_5, a1_6, h2)).bind fun (x3, _) =>
    some (x3, 0, h2)))
abbrev ks305 : List SK := [.agg [(.int .i64), (.int .i64), (.cplx .f64), .str, (.int .i64), (.int .i64), .ref], .agg [(.int .i64), (.int .i64), (.cplx .f64), .str, (.int .i64), (.int .i64), .ref]]
abbrev rs305 : List SK := [.one (.int .i64), .one (.int .i64)]
noncomputable def e305 (N : Nat) : Env := ⟨Tryz.prog, 16, inTab [2, 3], inTab [], natTab [(2, 2), (3, 3)], inTab [], calTab [(163, .full (mkFun ks163 rs163 (F163 N))), (164, .ro (mkFun ks164 rs164 (F164 N N)))], altTab [], loopTab [], natTab []⟩
theorem fine305 (N : Nat) : Fine (e305 N) N 305 Tryz.f305 ks305 rs305 (F305 N) :=
  ⟨Tryz.func305, by kernel_rfl, by kernel_rfl, by kernel_rfl, loops_of trivial, by kernel_rfl, by kernel_rfl, fun _ => by kernel_rfl⟩
theorem good305 (N : Nat) : Go.L.Good (e305 N) := good_of ⟨gd163 N, ⟨gd164 N N, trivial⟩⟩
theorem gd305 (N : Nat) : CalOk Tryz.prog 305 (.full (mkFun ks305 rs305 (F305 N))) := mkFun_good (fine305 N) (good305 N)

/-! ### 230: pattern.match -/
noncomputable def L230_0 (N : Nat) (rec : Int × Int × Int × Int × (Nat × Nat) × ByteArray × Int × Int × V × V × V × Int × Int × (Nat × Nat) × ByteArray × Int × Int × V × V × H → Option (V × Bool × H)) : Nat → V × Int × Int × Int × Int × Int × Int × (Nat × Nat) × ByteArray × Int × Int × V × V × V × Int × Int × (Nat × Nat) × ByteArray × Int × Int × V × H → Option ((V × Int × Int × Int × Int × (Nat × Nat) × ByteArray × Int × Int × V × V × V × Int × Int × (Nat × Nat) × ByteArray × Int × Int × V × H) ⊕ (V × Bool × H))
  | 0, _ => none
  | n + 1, (x88, x89, x90, x91, x92, x93, x94, x95, x96, x97, x98, x99, x100, x101, x102, x103, x104, x105, x106, x107, x108, h109) =>
    (if (decide (x90 < x89)) = true then (
    (sidx x100 x90 11).bind fun q110 =>
    (L.asInt .i64 (rd h109 q110 0)).bind fun x111 =>
    (L.asInt .i64 (rd h109 q110 1)).bind fun x112 =>
    (L.asInt .i64 (rd h109 q110 2)).bind fun x113 =>
    (L.asInt .i64 (rd h109 q110 3)).bind fun x114 =>
    (L.asCplx .f64 (rd h109 q110 4)).bind fun x115 =>
    (L.asStr (rd h109 q110 5)).bind fun x116 =>
    (L.asInt .i64 (rd h109 q110 6)).bind fun x117 =>
    (L.asInt .i64 (rd h109 q110 7)).bind fun x118 =>
    ((rd h109 q110 8)).bind fun x119 =>
    ((rd h109 q110 9)).bind fun x120 =>
    ((rd h109 q110 10)).bind fun x121 =>
    (sidx x108 x90 7).bind fun q122 =>
    (L.asInt .i64 (rd h109 q122 0)).bind fun x123 =>
    (L.asInt .i64 (rd h109 q122 1)).bind fun x124 =>
    (L.asCplx .f64 (rd h109 q122 2)).bind fun x125 =>
    (L.asStr (rd h109 q122 3)).bind fun x126 =>
    (L.asInt .i64 (rd h109 q122 4)).bind fun x127 =>
    (L.asInt .i64 (rd h109 q122 5)).bind fun x128 =>
    ((rd h109 q122 6)).bind fun x129 =>
    (rec (x111, x112, x113, x114, (x115.1, x115.2), x116, x117, x118, x119, x120, x121, x123, x124, (x125.1, x125.2), x126, x127, x128, x129, x88, h109)).bind fun (x130, x131, h132) =>
    (if (!x131) = true then (
    some (.inr (.nils, false, h132)))
    else (
    L230_0 N rec n (x130, x89, (IntKind.i64.wrap (x90 + 1)), x91, x92, x93, x94, (x95.1, x95.2), x96, x97, x98, x99, x100, x101, x102, x103, (x104.1, x104.2), x105, x106, x107, x108, h132))))
    else (
    some (.inl (x88, x91, x92, x93, x94, (x95.1, x95.2), x96, x97, x98, x99, x100, x101, x102, x103, (x104.1, x104.2), x105, x106, x107, x108, h109))))
noncomputable def F230 (N : Nat) : Nat → Int × Int × Int × Int × (Nat × Nat) × ByteArray × Int × Int × V × V × V × Int × Int × (Nat × Nat) × ByteArray × Int × Int × V × V × H → Option (V × Bool × H)
  | 0, _ => none
  | d + 1, (a0_0, a0_1, a0_2, a0_3, a0_4, a0_5, a0_6, a0_7, a0_8, a0_9, a0_10, a1_0, a1_1, a1_2, a1_3, a1_4, a1_5, a1_6, a2, h) =>
    ((if (a0_0 == 1) = true then (
    some (.inr (a2, true, h)))
    else (
    (if (a0_0 == 2) = true then (
    (happ h a2 8 1 [(.int .i64 a0_1), (.int .i64 a1_0), (.int .i64 a1_1), (.cplx .f64 a1_2.1 a1_2.2), (.str a1_3), (.int .i64 a1_4), (.int .i64 a1_5), a1_6]).bind fun (v1, h2) =>
    some (.inr (v1, true, h2)))
    else (
    (if (a0_0 == 3) = true then (
    (F305 N (a0_2, a0_3, (a0_4.1, a0_4.2), a0_5, a0_6, a0_7, a0_8, a1_0, a1_1, (a1_2.1, a1_2.2), a1_3, a1_4, a1_5, a1_6, h)).bind fun (x3, x4, h5) =>
    some (.inr (a2, (x3 == 0), h5)))
    else (
    (if (a0_0 == 4) = true then (
    some (.inr (a2, (a1_0 == a0_1), h)))
    else (
    (if (a0_0 == 5) = true then (
    (if (a1_0 != 8) = true then (
    some (true, h))
    else (
    (slen a1_6).bind fun n8 =>
    (slen a0_9).bind fun n9 =>
    some ((n8 != n9), h))).bind fun (b6, h7) =>
    (if b6 = true then (
    some (.inr (.nils, false, h7)))
    else (
    some (.inl (a2, a0_0, a0_1, a0_2, a0_3, (a0_4.1, a0_4.2), a0_5, a0_6, a0_7, a0_8, a0_9, a0_10, a1_0, a1_1, (a1_2.1, a1_2.2), a1_3, a1_4, a1_5, a1_6, h7)))))
    else (
    (if (a0_0 == 6) = true then (
    (if (a1_0 != 9) = true then (
    some (true, h))
    else (
    (slen a1_6).bind fun n12 =>
    (slen a0_9).bind fun n13 =>
    some ((decide (n12 < n13)), h))).bind fun (b10, h11) =>
    (if b10 = true then (
    some (true, h11))
    else (
    (slen a0_10).bind fun n16 =>
    (if (n16 == 0) = true then (
    (slen a1_6).bind fun n19 =>
    (slen a0_9).bind fun n20 =>
    some ((decide (n19 > n20)), h11))
    else (
    some (false, h11))).bind fun (b17, h18) =>
    some (b17, h18))).bind fun (b14, h15) =>
    (if b14 = true then (
    some (.inr (.nils, false, h15)))
    else (
    some (.inl (a2, a0_0, a0_1, a0_2, a0_3, (a0_4.1, a0_4.2), a0_5, a0_6, a0_7, a0_8, a0_9, a0_10, a1_0, a1_1, (a1_2.1, a1_2.2), a1_3, a1_4, a1_5, a1_6, h15)))))
    else (
    some (.inl (a2, a0_0, a0_1, a0_2, a0_3, (a0_4.1, a0_4.2), a0_5, a0_6, a0_7, a0_8, a0_9, a0_10, a1_0, a1_1, (a1_2.1, a1_2.2), a1_3, a1_4, a1_5, a1_6, h)))))))))))))) : Option ((V × Int × Int × Int × Int × (Nat × Nat) × ByteArray × Int × Int × V × V × V × Int × Int × (Nat × Nat) × ByteArray × Int × Int × V × H) ⊕ (V × Bool × H))).bind fun o21 => match o21 with
    | .inl (x22, x23, x24, x25, x26, x27, x28, x29, x30, x31, x32, x33, x34, x35, x36, x37, x38, x39, x40, h41) => (
    (slen x32).bind fun n42 =>
    (L230_0 N (F230 N d) N (x22, n42, 0, x23, x24, x25, x26, (x27.1, x27.2), x28, x29, x30, x31, x32, x33, x34, x35, (x36.1, x36.2), x37, x38, x39, x40, h41)).bind fun o133 => match o133 with
    | .inl (x134, x135, x136, x137, x138, x139, x140, x141, x142, x143, x144, x145, x146, x147, x148, x149, x150, x151, x152, h153) => (
    (slen x145).bind fun n154 =>
    (if (n154 == 1) = true then (
    (some (h153 ++ [O.cells 0 []]) : Option H).bind fun h155 =>
    (slen x144).bind fun n156 =>
    (slen x152).bind fun n157 =>
    (ssl 7 x152 n156 n157).bind fun v158 =>
    (scells h155 v158 7).bind fun cs161 =>
    (happ h155 (.sl (h153).length 0 0 0 7 (some 0)) 7 (snlen v158) cs161).bind fun (v159, h160) =>
    (sidx x145 0 11).bind fun q162 =>
    (L.asInt .i64 (rd h160 q162 0)).bind fun x163 =>
    (L.asInt .i64 (rd h160 q162 1)).bind fun x164 =>
    (L.asInt .i64 (rd h160 q162 2)).bind fun x165 =>
    (L.asInt .i64 (rd h160 q162 3)).bind fun x166 =>
    (L.asCplx .f64 (rd h160 q162 4)).bind fun x167 =>
    (L.asStr (rd h160 q162 5)).bind fun x168 =>
    (L.asInt .i64 (rd h160 q162 6)).bind fun x169 =>
    (L.asInt .i64 (rd h160 q162 7)).bind fun x170 =>
    ((rd h160 q162 8)).bind fun x171 =>
    ((rd h160 q162 9)).bind fun x172 =>
    ((rd h160 q162 10)).bind fun x173 =>
    (ck1 v159).bind fun _ =>
    (F230 N d (x163, x164, x165, x166, (x167.1, x167.2), x168, x169, x170, x171, x172, x173, 9, 0, (0, 0), (ByteArray.mk #[]), 0, 0, v159, x134, h160)).bind fun (x174, x175, h176) =>
    some (x174, x175, h176))
    else (
    some (x134, true, h153))))
    | .inr (x177, x178, h179) => (
    some (x177, x178, h179)))
    | .inr (x180, x181, h182) => (
    some (x180, x181, h182))
abbrev ks230 : List SK := [.agg [(.int .i64), (.int .i64), (.int .i64), (.int .i64), (.cplx .f64), .str, (.int .i64), (.int .i64), .ref, .ref, .ref], .agg [(.int .i64), (.int .i64), (.cplx .f64), .str, (.int .i64), (.int .i64), .ref], .one .ref]
abbrev rs230 : List SK := [.one .ref, .one .bool]
noncomputable def e230 (N d : Nat) : Env := ⟨Tryz.prog, 137, inTab [3, 4, 25], inTab [], natTab [(3, 3), (4, 4), (13, 3), (21, 3), (30, 3), (42, 4), (44, 3), (49, 4), (53, 4), (56, 3), (63, 4), (67, 4), (70, 3), (76, 3), (81, 4), (84, 3), (90, 3), (97, 3), (102, 4), (114, 3), (119, 4), (121, 3), (126, 3)], inTab [], calTab [(305, .full (mkFun ks305 rs305 (F305 N))), (230, .full (mkFun ks230 rs230 (F230 N d)))], altTab [(1073938447, [⟨.normal, [2, 3, 4], [.one .ref, .lp 3 0, .lp 4 0], [3, 4], [.cells [(.int .i64), (.int .i64), (.int .i64), (.int .i64), (.cplx .f64), .str, (.int .i64), (.int .i64), .ref, .ref, .ref], .cells [(.int .i64), (.int .i64), (.cplx .f64), .str, (.int .i64), (.int .i64), .ref]]⟩, ⟨.ret, [6, 7], [.one .ref, .one .bool], [], []⟩])], loopTab [(19, ⟨⟨.normal, [2, 3, 4, 92, 93], [.one .ref, .lp 3 0, .lp 4 0, .one (.int .i64), .one (.int .i64)], [3, 4], [.cells [(.int .i64), (.int .i64), (.int .i64), (.int .i64), (.cplx .f64), .str, (.int .i64), (.int .i64), .ref, .ref, .ref], .cells [(.int .i64), (.int .i64), (.cplx .f64), .str, (.int .i64), (.int .i64), .ref]]⟩, [⟨(.exit 1), [2, 3, 4], [.one .ref, .lp 3 0, .lp 4 0], [3, 4], [.cells [(.int .i64), (.int .i64), (.int .i64), (.int .i64), (.cplx .f64), .str, (.int .i64), (.int .i64), .ref, .ref, .ref], .cells [(.int .i64), (.int .i64), (.cplx .f64), .str, (.int .i64), (.int .i64), .ref]]⟩, ⟨.ret, [6, 7], [.one .ref, .one .bool], [], []⟩], L230_0 N (F230 N d)⟩)], natTab []⟩
theorem l230_0 (N d : Nat) : ∀ A, (e230 N d).lp (lid (loopAt Tryz.f230 0)) = some A → LoopOk (e230 N d) N (loopAt Tryz.f230 0) A :=
  loopOk_of (A := ⟨⟨.normal, [2, 3, 4, 92, 93], [.one .ref, .lp 3 0, .lp 4 0, .one (.int .i64), .one (.int .i64)], [3, 4], [.cells [(.int .i64), (.int .i64), (.int .i64), (.int .i64), (.cplx .f64), .str, (.int .i64), (.int .i64), .ref, .ref, .ref], .cells [(.int .i64), (.int .i64), (.cplx .f64), .str, (.int .i64), (.int .i64), .ref]]⟩, [⟨(.exit 1), [2, 3, 4], [.one .ref, .lp 3 0, .lp 4 0], [3, 4], [.cells [(.int .i64), (.int .i64), (.int .i64), (.int .i64), (.cplx .f64), .str, (.int .i64), (.int .i64), .ref, .ref, .ref], .cells [(.int .i64), (.int .i64), (.cplx .f64), .str, (.int .i64), (.int .i64), .ref]]⟩, ⟨.ret, [6, 7], [.one .ref, .one .bool], [], []⟩], L230_0 N (F230 N d)⟩) (by kernel_rfl) (fun _ => rfl) (fun _ _ => by kernel_rfl)
theorem fine230 (N d : Nat) : Fine (e230 N d) N 230 Tryz.f230 ks230 rs230 (F230 N (d + 1)) :=
  ⟨Tryz.func230, by kernel_rfl, by kernel_rfl, by kernel_rfl, loops_of ⟨l230_0 N d, trivial⟩, by kernel_rfl, by kernel_rfl, fun _ => by kernel_rfl⟩
theorem gd230 (N : Nat) : ∀ d, CalOk Tryz.prog 230 (.full (mkFun ks230 rs230 (F230 N d)))
  | 0 => fun vs h s he => by obtain ⟨t, _, he⟩ := Option.bind_eq_some_iff.1 he; cases he
  | d + 1 => mkFun_good (fine230 N d) (good_of ⟨gd305 N, ⟨gd230 N d, trivial⟩⟩)
theorem good230 (N d : Nat) : Go.L.Good (e230 N d) := good_of ⟨gd305 N, ⟨gd230 N d, trivial⟩⟩

/-! ### 155: pattern.Match -/
noncomputable def F155 (N : Nat) : Int × Int × Int × Int × (Nat × Nat) × ByteArray × Int × Int × V × V × V × Int × Int × (Nat × Nat) × ByteArray × Int × Int × V × H → Option (V × Bool × Int × H)
  | (a0_0, a0_1, a0_2, a0_3, a0_4, a0_5, a0_6, a0_7, a0_8, a0_9, a0_10, a1_0, a1_1, a1_2, a1_3, a1_4, a1_5, a1_6, h) =>
    (F229 N (a0_0, a0_1, a0_2, a0_3, (a0_4.1, a0_4.2), a0_5, a0_6, a0_7, a0_8, a0_9, a0_10, 32, h)).bind fun (x1, h2) =>
    (if (x1 != 0) = true then (
    some (.nils, false, x1, h2))
    else (
    (F52 N (a1_0, a1_1, (a1_2.1, a1_2.2), a1_3, a1_4, a1_5, a1_6, h2)).bind fun (x3, h4) =>
    (if (x3 != 0) = true then (
    some (.nils, false, x3, h4))
    else (
    (F230 N N (a0_0, a0_1, a0_2, a0_3, (a0_4.1, a0_4.2), a0_5, a0_6, a0_7, a0_8, a0_9, a0_10, a1_0, a1_1, (a1_2.1, a1_2.2), a1_3, a1_4, a1_5, a1_6, .nils, h4)).bind fun (x5, x6, h7) =>
    (if (!x6) = true then (
    some (.nils, false, 0, h7))
    else (
    some (x5, true, 0, h7)))))))
abbrev ks155 : List SK := [.agg [(.int .i64), (.int .i64), (.int .i64), (.int .i64), (.cplx .f64), .str, (.int .i64), (.int .i64), .ref, .ref, .ref], .agg [(.int .i64), (.int .i64), (.cplx .f64), .str, (.int .i64), (.int .i64), .ref]]
abbrev rs155 : List SK := [.one .ref, .one .bool, .one (.int .i64)]
noncomputable def e155 (N : Nat) : Env := ⟨Tryz.prog, 30, inTab [2, 3], inTab [], natTab [(2, 2), (3, 3)], inTab [], calTab [(229, .full (mkFun ks229 rs229 (F229 N))), (52, .full (mkFun ks52 rs52 (F52 N))), (230, .full (mkFun ks230 rs230 (F230 N N)))], altTab [], loopTab [], natTab []⟩
theorem fine155 (N : Nat) : Fine (e155 N) N 155 Tryz.f155 ks155 rs155 (F155 N) :=
  ⟨Tryz.func155, by kernel_rfl, by kernel_rfl, by kernel_rfl, loops_of trivial, by kernel_rfl, by kernel_rfl, fun _ => by kernel_rfl⟩
theorem good155 (N : Nat) : Go.L.Good (e155 N) := good_of ⟨gd229 N, ⟨gd52 N, ⟨gd230 N N, trivial⟩⟩⟩
theorem gd155 (N : Nat) : CalOk Tryz.prog 155 (.full (mkFun ks155 rs155 (F155 N))) := mkFun_good (fine155 N) (good155 N)

/-! ### 53: step.doing).binds -/
noncomputable def L53_0 (N : Nat) : Nat → V × V × Int × Int × H → Option ((H) ⊕ (Int × H))
  | 0, _ => none
  | n + 1, (x28, x29, x30, x31, h32) =>
    (if (decide (x31 < x30)) = true then (
    (sidx x29 x31 8).bind fun q33 =>
    (L.asInt .i64 (rd h32 q33 0)).bind fun x34 =>
    (L.asInt .i64 (rd h32 q33 1)).bind fun x35 =>
    (L.asInt .i64 (rd h32 q33 2)).bind fun x36 =>
    (L.asCplx .f64 (rd h32 q33 3)).bind fun x37 =>
    (L.asStr (rd h32 q33 4)).bind fun x38 =>
    (L.asInt .i64 (rd h32 q33 5)).bind fun x39 =>
    (L.asInt .i64 (rd h32 q33 6)).bind fun x40 =>
    ((rd h32 q33 7)).bind fun x41 =>
    (nck x28).bind fun _ =>
    ((rd h32 (padd x28 17) 0)).bind fun x42 =>
    (F112 N (x42, x34, h32)).bind fun (x43, x44, x45, x46, x47, x48, x49, x50, _) =>
    (if (x50 != 0) = true then (
    some (.inr (x50, h32)))
    else (
    (nck x28).bind fun _ =>
    ((rd h32 (padd x28 17) 0)).bind fun x51 =>
    (F113 N (x51, x34, x35, x36, (x37.1, x37.2), x38, x39, x40, x41, h32)).bind fun (x52, h53) =>
    (if (x52 != 0) = true then (
    some (.inr (x52, h53)))
    else (
    L53_0 N n (x28, x29, x30, (IntKind.i64.wrap (x31 + 1)), h53))))))
    else (
    some (.inl h32)))
noncomputable def F53 (N : Nat) : V × V × H → Option (Int × H)
  | (a0, a1, h) =>
    (slen a1).bind fun n1 =>
    (L53_0 N N (a0, a1, n1, 0, h)).bind fun o54 => match o54 with
    | .inl h55 => (
    some (0, h55))
    | .inr (x56, h57) => (
    some (x56, h57))
abbrev ks53 : List SK := [.one .ref, .one .ref]
abbrev rs53 : List SK := [.one (.int .i64)]
noncomputable def e53 (N : Nat) : Env := ⟨Tryz.prog, 42, inTab [6, 7], inTab [], natTab [(6, 6), (7, 7), (21, 6), (33, 6), (35, 6)], inTab [], calTab [(112, .ro (mkFun ks112 rs112 (F112 N))), (113, .full (mkFun ks113 rs113 (F113 N)))], altTab [], loopTab [(2, ⟨⟨.normal, [0, 10, 11, 12], [.one .ref, .one .ref, .one (.int .i64), .one (.int .i64)], [], []⟩, [⟨(.exit 0), [], [], [], []⟩, ⟨.ret, [4], [.one (.int .i64)], [], []⟩], L53_0 N⟩)], natTab []⟩
theorem l53_0 (N : Nat) : ∀ A, (e53 N).lp (lid (loopAt Tryz.f53 0)) = some A → LoopOk (e53 N) N (loopAt Tryz.f53 0) A :=
  loopOk_of (A := ⟨⟨.normal, [0, 10, 11, 12], [.one .ref, .one .ref, .one (.int .i64), .one (.int .i64)], [], []⟩, [⟨(.exit 0), [], [], [], []⟩, ⟨.ret, [4], [.one (.int .i64)], [], []⟩], L53_0 N⟩) (by kernel_rfl) (fun _ => rfl) (fun _ _ => by kernel_rfl)
theorem fine53 (N : Nat) : Fine (e53 N) N 53 Tryz.f53 ks53 rs53 (F53 N) :=
  ⟨Tryz.func53, by kernel_rfl, by kernel_rfl, by kernel_rfl, loops_of ⟨l53_0 N, trivial⟩, by kernel_rfl, by kernel_rfl, fun _ => by kernel_rfl⟩
theorem good53 (N : Nat) : Go.L.Good (e53 N) := good_of ⟨gd112 N, ⟨gd113 N, trivial⟩⟩
theorem gd53 (N : Nat) : CalOk Tryz.prog 53 (.full (mkFun ks53 rs53 (F53 N))) := mkFun_good (fine53 N) (good53 N)

/-! ### 86: step.doing).match -/
noncomputable def L86_0 (N : Nat) : Nat → V × V × Int × Int × H → Option ((H) ⊕ (Int × H))
  | 0, _ => none
  | n + 1, (x37, x38, x39, x40, h41) =>
    (if (decide (x40 < x39)) = true then (
    (sidx x38 x40 12).bind fun q42 =>
    (L.asInt .i64 (rd h41 q42 0)).bind fun x43 =>
    (L.asInt .i64 (rd h41 q42 1)).bind fun x44 =>
    (L.asInt .i64 (rd h41 q42 2)).bind fun x45 =>
    (L.asInt .i64 (rd h41 q42 3)).bind fun x46 =>
    (L.asCplx .f64 (rd h41 q42 4)).bind fun x47 =>
    (L.asStr (rd h41 q42 5)).bind fun x48 =>
    (L.asInt .i64 (rd h41 q42 6)).bind fun x49 =>
    (L.asInt .i64 (rd h41 q42 7)).bind fun x50 =>
    ((rd h41 q42 8)).bind fun x51 =>
    ((rd h41 q42 9)).bind fun x52 =>
    ((rd h41 q42 10)).bind fun x53 =>
    (L.asInt .i64 (rd h41 q42 11)).bind fun x54 =>
    (F108 N (x37, h41)).bind fun (x55, x56, x57, x58, x59, x60, x61, _) =>
    (F155 N (x43, x44, x45, x46, (x47.1, x47.2), x48, x49, x50, x51, x52, x53, x55, x56, (x57.1, x57.2), x58, x59, x60, x61, h41)).bind fun (x62, x63, x64, h65) =>
    (if (x64 != 0) = true then (
    some (.inr (x64, h65)))
    else (
    (if x63 = true then (
    (nck x37).bind fun _ =>
    (wr h65 (padd x37 39) [(.int .i64 x54)]).bind fun h66 =>
    (F53 N (x37, x62, h66)).bind fun (x67, h68) =>
    some (.inr (x67, h68)))
    else (
    L86_0 N n (x37, x38, x39, (IntKind.i64.wrap (x40 + 1)), h65))))))
    else (
    some (.inl h41)))
noncomputable def F86 (N : Nat) : V × H → Option (Int × H)
  | (a0, h) =>
    (nck a0).bind fun _ =>
    (L.asInt .i64 (rd h (padd (padd a0 6) 1) 0)).bind fun x1 =>
    (nck a0).bind fun _ =>
    (wr h (padd a0 39) [(.int .i64 x1)]).bind fun h2 =>
    (nck a0).bind fun _ =>
    ((rd h2 (padd (padd a0 6) 10) 0)).bind fun x3 =>
    (slen x3).bind fun n4 =>
    (L86_0 N N (a0, x3, n4, 0, h2)).bind fun o69 => match o69 with
    | .inl h70 => (
    some (0, h70))
    | .inr (x71, h72) => (
    some (x71, h72))
abbrev ks86 : List SK := [.one .ref]
abbrev rs86 : List SK := [.one (.int .i64)]
noncomputable def e86 (N : Nat) : Env := ⟨Tryz.prog, 48, inTab [4], inTab [], natTab [(4, 4), (27, 4), (40, 4)], inTab [], calTab [(108, .ro (mkFun ks108 rs108 (F108 N))), (155, .full (mkFun ks155 rs155 (F155 N))), (53, .full (mkFun ks53 rs53 (F53 N)))], altTab [], loopTab [(3, ⟨⟨.normal, [0, 20, 21, 22], [.one .ref, .one .ref, .one (.int .i64), .one (.int .i64)], [], []⟩, [⟨(.exit 0), [], [], [], []⟩, ⟨.ret, [2], [.one (.int .i64)], [], []⟩], L86_0 N⟩)], natTab []⟩
theorem l86_0 (N : Nat) : ∀ A, (e86 N).lp (lid (loopAt Tryz.f86 0)) = some A → LoopOk (e86 N) N (loopAt Tryz.f86 0) A :=
  loopOk_of (A := ⟨⟨.normal, [0, 20, 21, 22], [.one .ref, .one .ref, .one (.int .i64), .one (.int .i64)], [], []⟩, [⟨(.exit 0), [], [], [], []⟩, ⟨.ret, [2], [.one (.int .i64)], [], []⟩], L86_0 N⟩) (by kernel_rfl) (fun _ => rfl) (fun _ _ => by kernel_rfl)
theorem fine86 (N : Nat) : Fine (e86 N) N 86 Tryz.f86 ks86 rs86 (F86 N) :=
  ⟨Tryz.func86, by kernel_rfl, by kernel_rfl, by kernel_rfl, loops_of ⟨l86_0 N, trivial⟩, by kernel_rfl, by kernel_rfl, fun _ => by kernel_rfl⟩
theorem good86 (N : Nat) : Go.L.Good (e86 N) := good_of ⟨gd108 N, ⟨gd155 N, ⟨gd53 N, trivial⟩⟩⟩
theorem gd86 (N : Nat) : CalOk Tryz.prog 86 (.full (mkFun ks86 rs86 (F86 N))) := mkFun_good (fine86 N) (good86 N)

/-! ### 58: frame.Stack).Enter -/
noncomputable def L58_0 (N : Nat) : Nat → V × Int × Int × Int × V × H → Option (V × Int × Int × V × H)
  | 0, _ => none
  | n + 1, (x33, x34, x35, x36, x37, h38) =>
    (slen x37).bind fun n39 =>
    (if (decide (n39 < x35)) = true then (
    (happ h38 x37 7 1 [(.int .i64 1), (.int .i64 0), (.cplx .f64 0 0), (.str (ByteArray.mk #[])), (.int .i64 0), (.int .i64 0), .nils]).bind fun (v40, h41) =>
    L58_0 N n (x33, x34, x35, x36, v40, h41))
    else (
    some (x33, x34, x36, x37, h38)))
noncomputable def F58 (N : Nat) : V × Int × Int × Int × H → Option (Int × H)
  | (a0, a1, a2, a3, h) =>
    (F49 N (a0, h)).bind fun (x1, _) =>
    (if (!x1) = true then (
    some (true, h))
    else (
    some ((decide (a1 < 0)), h))).bind fun (b2, h3) =>
    (if b2 = true then (
    some (true, h3))
    else (
    some ((decide (a1 ≥ 64)), h3))).bind fun (b4, h5) =>
    (if b4 = true then (
    some (true, h5))
    else (
    some ((decide (a3 < 0)), h5))).bind fun (b6, h7) =>
    (if b6 = true then (
    some (true, h7))
    else (
    some ((decide (a3 > 32)), h7))).bind fun (b8, h9) =>
    (if b8 = true then (
    some (true, h9))
    else (
    some ((decide (a2 < 0)), h9))).bind fun (b10, h11) =>
    (if b10 = true then (
    some (true, h11))
    else (
    some ((decide (a2 > a3)), h11))).bind fun (b12, h13) =>
    (if b12 = true then (
    some (1, h13))
    else (
    (F59 N (a0, h13)).bind fun (x14, _) =>
    (if (decide (x14 < a2)) = true then (
    some (92, h13))
    else (
    (nck a0).bind fun _ =>
    ((rd h13 (padd a0 1) 0)).bind fun x15 =>
    (slen x15).bind fun n16 =>
    (if (decide (n16 ≥ 64)) = true then (
    some (90, h13))
    else (
    (nck a0).bind fun _ =>
    ((rd h13 (padd a0 2) 0)).bind fun x17 =>
    (slen x17).bind fun n18 =>
    (nck a0).bind fun _ =>
    ((rd h13 (padd a0 2) 0)).bind fun x19 =>
    (slen x19).bind fun n20 =>
    (ssl 7 x19 (IntKind.i64.wrap (n18 - a2)) n20).bind fun v21 =>
    (F75 N (v21, h13)).bind fun (x22, h23) =>
    (L58_0 N N (a0, a1, a3, (IntKind.i64.wrap (n18 - a2)), x22, h23)).bind fun (x42, x43, x44, x45, h46) =>
    (nck x42).bind fun _ =>
    ((rd h46 (padd x42 2) 0)).bind fun x47 =>
    (slen x47).bind fun n48 =>
    (ssl 7 x47 0 x44).bind fun v49 =>
    (nck x42).bind fun _ =>
    (ck1 v49).bind fun _ =>
    (wr h46 (padd x42 2) [v49]).bind fun h50 =>
    (nck x42).bind fun _ =>
    ((rd h50 (padd x42 1) 0)).bind fun x51 =>
    (ck1 x45).bind fun _ =>
    (happ h50 x51 4 1 [(.int .i64 x43), (.int .i64 0), x45, (.int .i64 x44)]).bind fun (v52, h53) =>
    (nck x42).bind fun _ =>
    (ck1 v52).bind fun _ =>
    (wr h53 (padd x42 1) [v52]).bind fun h54 =>
    some (0, h54)))))))
abbrev ks58 : List SK := [.one .ref, .one (.int .i64), .one (.int .i64), .one (.int .i64)]
abbrev rs58 : List SK := [.one (.int .i64)]
noncomputable def e58 (N : Nat) : Env := ⟨Tryz.prog, 94, inTab [69, 90], inTab [], natTab [], inTab [], calTab [(49, .ro (mkFun ks49 rs49 (F49 N))), (59, .ro (mkFun ks59 rs59 (F59 N))), (75, .full (mkFun ks75 rs75 (F75 N)))], altTab [], loopTab [(9, ⟨⟨.normal, [0, 1, 3, 9, 10], [.one .ref, .one (.int .i64), .one (.int .i64), .one (.int .i64), .one .ref], [], []⟩, [⟨(.exit 0), [0, 1, 9, 10], [.one .ref, .one (.int .i64), .one (.int .i64), .one .ref], [], []⟩], L58_0 N⟩)], natTab []⟩
theorem l58_0 (N : Nat) : ∀ A, (e58 N).lp (lid (loopAt Tryz.f58 0)) = some A → LoopOk (e58 N) N (loopAt Tryz.f58 0) A :=
  loopOk_of (A := ⟨⟨.normal, [0, 1, 3, 9, 10], [.one .ref, .one (.int .i64), .one (.int .i64), .one (.int .i64), .one .ref], [], []⟩, [⟨(.exit 0), [0, 1, 9, 10], [.one .ref, .one (.int .i64), .one (.int .i64), .one .ref], [], []⟩], L58_0 N⟩) (by kernel_rfl) (fun _ => rfl) (fun _ _ => by kernel_rfl)
theorem fine58 (N : Nat) : Fine (e58 N) N 58 Tryz.f58 ks58 rs58 (F58 N) :=
  ⟨Tryz.func58, by kernel_rfl, by kernel_rfl, by kernel_rfl, loops_of ⟨l58_0 N, trivial⟩, by kernel_rfl, by kernel_rfl, fun _ => by kernel_rfl⟩
theorem good58 (N : Nat) : Go.L.Good (e58 N) := good_of ⟨gd49 N, ⟨gd59 N, ⟨gd75 N, trivial⟩⟩⟩
theorem gd58 (N : Nat) : CalOk Tryz.prog 58 (.full (mkFun ks58 rs58 (F58 N))) := mkFun_good (fine58 N) (good58 N)

/-! ### 21: frame.Stack).Go -/
noncomputable def F21 (N : Nat) : V × Int × H → Option (Int × H)
  | (a0, a1, h) =>
    (F49 N (a0, h)).bind fun (x1, _) =>
    (if (!x1) = true then (
    some (true, h))
    else (
    some ((decide (a1 < 0)), h))).bind fun (b2, h3) =>
    (if b2 = true then (
    some (true, h3))
    else (
    some ((decide (a1 ≥ 1024)), h3))).bind fun (b4, h5) =>
    (if b4 = true then (
    some (1, h5))
    else (
    (F50 N (a0, h5)).bind fun (x6, _) =>
    (isNil x6).bind fun b7 =>
    (if b7 = true then (
    some (92, h5))
    else (
    (nck x6).bind fun _ =>
    (wr h5 (padd (padd x6 0) 1) [(.int .i64 a1)]).bind fun h8 =>
    some (0, h8)))))
abbrev ks21 : List SK := [.one .ref, .one (.int .i64)]
abbrev rs21 : List SK := [.one (.int .i64)]
noncomputable def e21 (N : Nat) : Env := ⟨Tryz.prog, 26, inTab [], inTab [], natTab [], inTab [], calTab [(49, .ro (mkFun ks49 rs49 (F49 N))), (50, .ro (mkFun ks50 rs50 (F50 N)))], altTab [], loopTab [], natTab []⟩
theorem fine21 (N : Nat) : Fine (e21 N) N 21 Tryz.f21 ks21 rs21 (F21 N) :=
  ⟨Tryz.func21, by kernel_rfl, by kernel_rfl, by kernel_rfl, loops_of trivial, by kernel_rfl, by kernel_rfl, fun _ => by kernel_rfl⟩
theorem good21 (N : Nat) : Go.L.Good (e21 N) := good_of ⟨gd49 N, ⟨gd50 N, trivial⟩⟩
theorem gd21 (N : Nat) : CalOk Tryz.prog 21 (.full (mkFun ks21 rs21 (F21 N))) := mkFun_good (fine21 N) (good21 N)

/-! ### 87: step.doing).call -/
noncomputable def L87_0 (N : Nat) : Nat → V × V × Int × Int × H → Option ((V × H) ⊕ (Int × H))
  | 0, _ => none
  | n + 1, (x19, x20, x21, x22, h23) =>
    (if (decide (x22 < x21)) = true then (
    (sidx x20 x22 7).bind fun q24 =>
    (L.asInt .i64 (rd h23 q24 0)).bind fun x25 =>
    (L.asInt .i64 (rd h23 q24 1)).bind fun x26 =>
    (L.asCplx .f64 (rd h23 q24 2)).bind fun x27 =>
    (L.asStr (rd h23 q24 3)).bind fun x28 =>
    (L.asInt .i64 (rd h23 q24 4)).bind fun x29 =>
    (L.asInt .i64 (rd h23 q24 5)).bind fun x30 =>
    ((rd h23 q24 6)).bind fun x31 =>
    (nck x19).bind fun _ =>
    ((rd h23 (padd x19 17) 0)).bind fun x32 =>
    (F26 N (x32, x25, x26, (x27.1, x27.2), x28, x29, x30, x31, h23)).bind fun (x33, h34) =>
    (if (x33 != 0) = true then (
    some (.inr (x33, h34)))
    else (
    L87_0 N n (x19, x20, x21, (IntKind.i64.wrap (x22 + 1)), h34))))
    else (
    some (.inl (x19, h23))))
noncomputable def F87 (N : Nat) : V × H → Option (Int × H)
  | (a0, h) =>
    (nck a0).bind fun _ =>
    ((rd h (padd a0 18) 0)).bind fun x1 =>
    (slen x1).bind fun n2 =>
    (L87_0 N N (a0, x1, n2, 0, h)).bind fun o35 => match o35 with
    | .inl (x36, h37) => (
    (nck x36).bind fun _ =>
    ((rd h37 (padd (padd x36 0) 1) 0)).bind fun x38 =>
    (nck x36).bind fun _ =>
    (L.asInt .i64 (rd h37 (padd (padd x36 6) 1) 0)).bind fun x39 =>
    (sidx x38 x39 4).bind fun q40 =>
    (L.asStr (rd h37 q40 0)).bind fun x41 =>
    (L.asInt .i64 (rd h37 q40 1)).bind fun x42 =>
    (L.asInt .i64 (rd h37 q40 2)).bind fun x43 =>
    ((rd h37 q40 3)).bind fun x44 =>
    (nck x36).bind fun _ =>
    (L.asInt .i64 (rd h37 (padd x36 39) 0)).bind fun x45 =>
    (nck x36).bind fun _ =>
    ((rd h37 (padd x36 17) 0)).bind fun x46 =>
    (nck x36).bind fun _ =>
    (L.asInt .i64 (rd h37 (padd (padd x36 6) 1) 0)).bind fun x47 =>
    (F42 N (x46, h37)).bind fun (x48, h49) =>
    (F58 N (x48, x47, x42, x43, h49)).bind fun (x50, h51) =>
    (if (x50 != 0) = true then (
    some (x50, h51))
    else (
    (nck x36).bind fun _ =>
    (wr h51 (padd x36 39) [(.int .i64 (-1))]).bind fun h52 =>
    (nck x36).bind fun _ =>
    ((rd h52 (padd (padd x36 2) 3) 0)).bind fun x53 =>
    (slen x53).bind fun n54 =>
    (if (decide (x45 ≥ n54)) = true then (
    some (3, h52))
    else (
    (nck x36).bind fun _ =>
    ((rd h52 (padd x36 17) 0)).bind fun x55 =>
    (F21 N (x55, x45, h52)).bind fun (x56, h57) =>
    (nck x36).bind fun _ =>
    ((rd h57 (padd x36 17) 0)).bind fun x58 =>
    (nck x36).bind fun _ =>
    (L.asInt .i64 (rd h57 (padd (padd x36 6) 1) 0)).bind fun x59 =>
    (F58 N (x58, x59, x42, x43, h57)).bind fun (x60, h61) =>
    some (x60, h61))))))
    | .inr (x62, h63) => (
    some (x62, h63))
abbrev ks87 : List SK := [.one .ref]
abbrev rs87 : List SK := [.one (.int .i64)]
noncomputable def e87 (N : Nat) : Env := ⟨Tryz.prog, 93, inTab [4, 6], inTab [], natTab [(4, 4), (6, 6), (54, 6), (56, 6), (88, 6), (90, 6)], inTab [], calTab [(26, .full (mkFun ks26 rs26 (F26 N))), (42, .gro (mkFun ks42 rs42 (F42 N))), (58, .full (mkFun ks58 rs58 (F58 N))), (21, .full (mkFun ks21 rs21 (F21 N)))], altTab [], loopTab [(2, ⟨⟨.normal, [0, 12, 13, 14], [.one .ref, .one .ref, .one (.int .i64), .one (.int .i64)], [], []⟩, [⟨(.exit 0), [0], [.one .ref], [], []⟩, ⟨.ret, [2], [.one (.int .i64)], [], []⟩], L87_0 N⟩)], natTab []⟩
theorem l87_0 (N : Nat) : ∀ A, (e87 N).lp (lid (loopAt Tryz.f87 0)) = some A → LoopOk (e87 N) N (loopAt Tryz.f87 0) A :=
  loopOk_of (A := ⟨⟨.normal, [0, 12, 13, 14], [.one .ref, .one .ref, .one (.int .i64), .one (.int .i64)], [], []⟩, [⟨(.exit 0), [0], [.one .ref], [], []⟩, ⟨.ret, [2], [.one (.int .i64)], [], []⟩], L87_0 N⟩) (by kernel_rfl) (fun _ => rfl) (fun _ _ => by kernel_rfl)
theorem fine87 (N : Nat) : Fine (e87 N) N 87 Tryz.f87 ks87 rs87 (F87 N) :=
  ⟨Tryz.func87, by kernel_rfl, by kernel_rfl, by kernel_rfl, loops_of ⟨l87_0 N, trivial⟩, by kernel_rfl, by kernel_rfl, fun _ => by kernel_rfl⟩
theorem good87 (N : Nat) : Go.L.Good (e87 N) := good_of ⟨gd26 N, ⟨gdg42 N, ⟨gd58 N, ⟨gd21 N, trivial⟩⟩⟩⟩
theorem gd87 (N : Nat) : CalOk Tryz.prog 87 (.full (mkFun ks87 rs87 (F87 N))) := mkFun_good (fine87 N) (good87 N)

/-! ### 25: frame.Stack).Depth -/
noncomputable def F25 (N : Nat) : V × H → Option (Int × H)
  | (a0, h) =>
    (F49 N (a0, h)).bind fun (x1, _) =>
    (if (!x1) = true then (
    some (0, h))
    else (
    (nck a0).bind fun _ =>
    ((rd h (padd a0 1) 0)).bind fun x2 =>
    (slen x2).bind fun n3 =>
    some (n3, h)))
abbrev ks25 : List SK := [.one .ref]
abbrev rs25 : List SK := [.one (.int .i64)]
noncomputable def e25 (N : Nat) : Env := ⟨Tryz.prog, 11, inTab [], inTab [], natTab [], inTab [], calTab [(49, .ro (mkFun ks49 rs49 (F49 N)))], altTab [], loopTab [], natTab []⟩
theorem fine25 (N : Nat) : Fine (e25 N) N 25 Tryz.f25 ks25 rs25 (F25 N) :=
  ⟨Tryz.func25, by kernel_rfl, by kernel_rfl, by kernel_rfl, loops_of trivial, by kernel_rfl, by kernel_rfl, fun _ => by kernel_rfl⟩
theorem good25 (N : Nat) : Go.L.Good (e25 N) := good_of ⟨gd49 N, trivial⟩
theorem gd25 (N : Nat) : CalOk Tryz.prog 25 (.ro (mkFun ks25 rs25 (F25 N))) := mkFun_ro (fine25 N) (good25 N) (by kernel_rfl)

/-! ### 29: step.atom -/
noncomputable def F29 (N : Nat) : ByteArray × H → Option (Int × Int × (Nat × Nat) × ByteArray × Int × Int × V × H)
  | (a0, h) =>
    some (5, 0, (0, 0), a0, 0, 0, .nils, h)
abbrev ks29 : List SK := [.one .str]
abbrev rs29 : List SK := [.agg [(.int .i64), (.int .i64), (.cplx .f64), .str, (.int .i64), (.int .i64), .ref]]
noncomputable def e29 (N : Nat) : Env := ⟨Tryz.prog, 5, inTab [2], inTab [], natTab [(2, 2)], inTab [], calTab [], altTab [], loopTab [], natTab []⟩
theorem fine29 (N : Nat) : Fine (e29 N) N 29 Tryz.f29 ks29 rs29 (F29 N) :=
  ⟨Tryz.func29, by kernel_rfl, by kernel_rfl, by kernel_rfl, loops_of trivial, by kernel_rfl, by kernel_rfl, fun _ => by kernel_rfl⟩
theorem good29 (N : Nat) : Go.L.Good (e29 N) := good_of trivial
theorem gd29 (N : Nat) : CalOk Tryz.prog 29 (.ro (mkFun ks29 rs29 (F29 N))) := mkFun_ro (fine29 N) (good29 N) (by kernel_rfl)

/-! ### 156: frame.Stack).Leave -/
noncomputable def F156 (N : Nat) : V × H → Option (Int × H)
  | (a0, h) =>
    (F49 N (a0, h)).bind fun (x1, _) =>
    (if (!x1) = true then (
    some (1, h))
    else (
    (F50 N (a0, h)).bind fun (x2, _) =>
    (isNil x2).bind fun b3 =>
    (if b3 = true then (
    some (true, h))
    else (
    (F59 N (a0, h)).bind fun (x6, _) =>
    some ((x6 == 0), h))).bind fun (b4, h5) =>
    (if b4 = true then (
    some (92, h5))
    else (
    (nck a0).bind fun _ =>
    ((rd h5 (padd a0 2) 0)).bind fun x7 =>
    (nck a0).bind fun _ =>
    ((rd h5 (padd a0 2) 0)).bind fun x8 =>
    (slen x8).bind fun n9 =>
    (sidx x7 (IntKind.i64.wrap (n9 - 1)) 7).bind fun q10 =>
    (L.asInt .i64 (rd h5 q10 0)).bind fun x11 =>
    (L.asInt .i64 (rd h5 q10 1)).bind fun x12 =>
    (L.asCplx .f64 (rd h5 q10 2)).bind fun x13 =>
    (L.asStr (rd h5 q10 3)).bind fun x14 =>
    (L.asInt .i64 (rd h5 q10 4)).bind fun x15 =>
    (L.asInt .i64 (rd h5 q10 5)).bind fun x16 =>
    ((rd h5 q10 6)).bind fun x17 =>
    (nck a0).bind fun _ =>
    ((rd h5 (padd a0 2) 0)).bind fun x18 =>
    (nck x2).bind fun _ =>
    (L.asInt .i64 (rd h5 (padd x2 3) 0)).bind fun x19 =>
    (slen x18).bind fun n20 =>
    (ssl 7 x18 0 x19).bind fun v21 =>
    (happ h5 v21 7 1 [(.int .i64 x11), (.int .i64 x12), (.cplx .f64 x13.1 x13.2), (.str x14), (.int .i64 x15), (.int .i64 x16), x17]).bind fun (v22, h23) =>
    (nck a0).bind fun _ =>
    (ck1 v22).bind fun _ =>
    (wr h23 (padd a0 2) [v22]).bind fun h24 =>
    (nck a0).bind fun _ =>
    ((rd h24 (padd a0 1) 0)).bind fun x25 =>
    (nck a0).bind fun _ =>
    ((rd h24 (padd a0 1) 0)).bind fun x26 =>
    (slen x26).bind fun n27 =>
    (slen x25).bind fun n28 =>
    (ssl 4 x25 0 (IntKind.i64.wrap (n27 - 1))).bind fun v29 =>
    (nck a0).bind fun _ =>
    (ck1 v29).bind fun _ =>
    (wr h24 (padd a0 1) [v29]).bind fun h30 =>
    some (0, h30)))))
abbrev ks156 : List SK := [.one .ref]
abbrev rs156 : List SK := [.one (.int .i64)]
noncomputable def e156 (N : Nat) : Env := ⟨Tryz.prog, 58, inTab [4, 40], inTab [], natTab [(4, 4)], inTab [], calTab [(49, .ro (mkFun ks49 rs49 (F49 N))), (50, .ro (mkFun ks50 rs50 (F50 N))), (59, .ro (mkFun ks59 rs59 (F59 N)))], altTab [], loopTab [], natTab []⟩
theorem fine156 (N : Nat) : Fine (e156 N) N 156 Tryz.f156 ks156 rs156 (F156 N) :=
  ⟨Tryz.func156, by kernel_rfl, by kernel_rfl, by kernel_rfl, loops_of trivial, by kernel_rfl, by kernel_rfl, fun _ => by kernel_rfl⟩
theorem good156 (N : Nat) : Go.L.Good (e156 N) := good_of ⟨gd49 N, ⟨gd50 N, ⟨gd59 N, trivial⟩⟩⟩
theorem gd156 (N : Nat) : CalOk Tryz.prog 156 (.full (mkFun ks156 rs156 (F156 N))) := mkFun_good (fine156 N) (good156 N)

/-! ### 88: step.doing).ret -/
noncomputable def F88 (N : Nat) : V × H → Option (Int × H)
  | (a0, h) =>
    (nck a0).bind fun _ =>
    (wr h (padd a0 39) [(.int .i64 (-1))]).bind fun h1 =>
    (nck a0).bind fun _ =>
    ((rd h1 (padd a0 17) 0)).bind fun x2 =>
    (F25 N (x2, h1)).bind fun (x3, _) =>
    ((if (x3 == 1) = true then (
    (F29 N ((ByteArray.mk #[110, 111, 114, 109, 97, 108]), h1)).bind fun (x4, x5, x6, x7, x8, x9, x10, _) =>
    (nck a0).bind fun _ =>
    ((rd h1 (padd a0 18) 0)).bind fun x11 =>
    (ck1 x11).bind fun _ =>
    (nck a0).bind fun _ =>
    (wr h1 (padd a0 19) [(.int .i64 17), (.int .i64 0), (.int .i64 0), (.cplx .f64 0 0), (.str (ByteArray.mk #[])), (.int .i64 0), (.int .i64 0), .nils, (.int .i64 x4), (.int .i64 x5), (.cplx .f64 x6.1 x6.2), (.str x7), (.int .i64 x8), (.int .i64 x9), x10, .nils, (.int .i64 0), (.int .i64 0), (.int .i64 0), x11]).bind fun h12 =>
    some (a0, h12))
    else (
    some (a0, h1))) : Option (V × H)).bind fun (x13, h14) =>
    (nck x13).bind fun _ =>
    ((rd h14 (padd x13 17) 0)).bind fun x15 =>
    (F108 N (x13, h14)).bind fun (x16, x17, x18, x19, x20, x21, x22, _) =>
    (F26 N (x15, x16, x17, (x18.1, x18.2), x19, x20, x21, x22, h14)).bind fun (x23, h24) =>
    (nck x13).bind fun _ =>
    ((rd h24 (padd x13 17) 0)).bind fun x25 =>
    (F156 N (x25, h24)).bind fun (x26, h27) =>
    some (x26, h27)
abbrev ks88 : List SK := [.one .ref]
abbrev rs88 : List SK := [.one (.int .i64)]
noncomputable def e88 (N : Nat) : Env := ⟨Tryz.prog, 33, inTab [], inTab [], natTab [], inTab [], calTab [(25, .ro (mkFun ks25 rs25 (F25 N))), (29, .ro (mkFun ks29 rs29 (F29 N))), (108, .ro (mkFun ks108 rs108 (F108 N))), (26, .full (mkFun ks26 rs26 (F26 N))), (156, .full (mkFun ks156 rs156 (F156 N)))], altTab [(196619, [⟨.normal, [0], [.one .ref], [], []⟩])], loopTab [], natTab []⟩
theorem fine88 (N : Nat) : Fine (e88 N) N 88 Tryz.f88 ks88 rs88 (F88 N) :=
  ⟨Tryz.func88, by kernel_rfl, by kernel_rfl, by kernel_rfl, loops_of trivial, by kernel_rfl, by kernel_rfl, fun _ => by kernel_rfl⟩
theorem good88 (N : Nat) : Go.L.Good (e88 N) := good_of ⟨gd25 N, ⟨gd29 N, ⟨gd108 N, ⟨gd26 N, ⟨gd156 N, trivial⟩⟩⟩⟩⟩
theorem gd88 (N : Nat) : CalOk Tryz.prog 88 (.full (mkFun ks88 rs88 (F88 N))) := mkFun_good (fine88 N) (good88 N)

/-! ### 157: step.doing).asks -/
noncomputable def F157 (N : Nat) : V × Int × H → Option (Int × H)
  | (a0, a1, h) =>
    (nck a0).bind fun _ =>
    (wr h (padd a0 19) [(.int .i64 a1), (.int .i64 0), (.int .i64 0), (.cplx .f64 0 0), (.str (ByteArray.mk #[])), (.int .i64 0), (.int .i64 0), .nils, (.int .i64 0), (.int .i64 0), (.cplx .f64 0 0), (.str (ByteArray.mk #[])), (.int .i64 0), (.int .i64 0), .nils, .nils, (.int .i64 0), (.int .i64 0), (.int .i64 0), .nils]).bind fun h1 =>
    some (0, h1)
abbrev ks157 : List SK := [.one .ref, .one (.int .i64)]
abbrev rs157 : List SK := [.one (.int .i64)]
noncomputable def e157 (N : Nat) : Env := ⟨Tryz.prog, 10, inTab [], inTab [], natTab [], inTab [], calTab [], altTab [], loopTab [], natTab []⟩
theorem fine157 (N : Nat) : Fine (e157 N) N 157 Tryz.f157 ks157 rs157 (F157 N) :=
  ⟨Tryz.func157, by kernel_rfl, by kernel_rfl, by kernel_rfl, loops_of trivial, by kernel_rfl, by kernel_rfl, fun _ => by kernel_rfl⟩
theorem good157 (N : Nat) : Go.L.Good (e157 N) := good_of trivial
theorem gd157 (N : Nat) : CalOk Tryz.prog 157 (.full (mkFun ks157 rs157 (F157 N))) := mkFun_good (fine157 N) (good157 N)

/-! ### 89: step.doing).self -/
noncomputable def F89 (N : Nat) : V × H → Option (Int × H)
  | (a0, h) =>
    (F157 N (a0, 2, h)).bind fun (x1, h2) =>
    some (x1, h2)
abbrev ks89 : List SK := [.one .ref]
abbrev rs89 : List SK := [.one (.int .i64)]
noncomputable def e89 (N : Nat) : Env := ⟨Tryz.prog, 5, inTab [], inTab [], natTab [], inTab [], calTab [(157, .full (mkFun ks157 rs157 (F157 N)))], altTab [], loopTab [], natTab []⟩
theorem fine89 (N : Nat) : Fine (e89 N) N 89 Tryz.f89 ks89 rs89 (F89 N) :=
  ⟨Tryz.func89, by kernel_rfl, by kernel_rfl, by kernel_rfl, loops_of trivial, by kernel_rfl, by kernel_rfl, fun _ => by kernel_rfl⟩
theorem good89 (N : Nat) : Go.L.Good (e89 N) := good_of ⟨gd157 N, trivial⟩
theorem gd89 (N : Nat) : CalOk Tryz.prog 89 (.full (mkFun ks89 rs89 (F89 N))) := mkFun_good (fine89 N) (good89 N)

/-! ### 90: step.doing).now -/
noncomputable def F90 (N : Nat) : V × H → Option (Int × H)
  | (a0, h) =>
    (F157 N (a0, 3, h)).bind fun (x1, h2) =>
    some (x1, h2)
abbrev ks90 : List SK := [.one .ref]
abbrev rs90 : List SK := [.one (.int .i64)]
noncomputable def e90 (N : Nat) : Env := ⟨Tryz.prog, 5, inTab [], inTab [], natTab [], inTab [], calTab [(157, .full (mkFun ks157 rs157 (F157 N)))], altTab [], loopTab [], natTab []⟩
theorem fine90 (N : Nat) : Fine (e90 N) N 90 Tryz.f90 ks90 rs90 (F90 N) :=
  ⟨Tryz.func90, by kernel_rfl, by kernel_rfl, by kernel_rfl, loops_of trivial, by kernel_rfl, by kernel_rfl, fun _ => by kernel_rfl⟩
theorem good90 (N : Nat) : Go.L.Good (e90 N) := good_of ⟨gd157 N, trivial⟩
theorem gd90 (N : Nat) : CalOk Tryz.prog 90 (.full (mkFun ks90 rs90 (F90 N))) := mkFun_good (fine90 N) (good90 N)

/-! ### 110: step.doing).x -/
noncomputable def F110 (N : Nat) : V × H → Option (Int × Int × (Nat × Nat) × ByteArray × Int × Int × V × H)
  | (a0, h) =>
    (nck a0).bind fun _ =>
    ((rd h (padd a0 18) 0)).bind fun x1 =>
    (nck a0).bind fun _ =>
    ((rd h (padd a0 18) 0)).bind fun x2 =>
    (slen x2).bind fun n3 =>
    (sidx x1 (IntKind.i64.wrap (n3 - 2)) 7).bind fun q4 =>
    (L.asInt .i64 (rd h q4 0)).bind fun x5 =>
    (L.asInt .i64 (rd h q4 1)).bind fun x6 =>
    (L.asCplx .f64 (rd h q4 2)).bind fun x7 =>
    (L.asStr (rd h q4 3)).bind fun x8 =>
    (L.asInt .i64 (rd h q4 4)).bind fun x9 =>
    (L.asInt .i64 (rd h q4 5)).bind fun x10 =>
    ((rd h q4 6)).bind fun x11 =>
    some (x5, x6, (x7.1, x7.2), x8, x9, x10, x11, h)
abbrev ks110 : List SK := [.one .ref]
abbrev rs110 : List SK := [.agg [(.int .i64), (.int .i64), (.cplx .f64), .str, (.int .i64), (.int .i64), .ref]]
noncomputable def e110 (N : Nat) : Env := ⟨Tryz.prog, 15, inTab [2], inTab [], natTab [(2, 2)], inTab [], calTab [], altTab [], loopTab [], natTab []⟩
theorem fine110 (N : Nat) : Fine (e110 N) N 110 Tryz.f110 ks110 rs110 (F110 N) :=
  ⟨Tryz.func110, by kernel_rfl, by kernel_rfl, by kernel_rfl, loops_of trivial, by kernel_rfl, by kernel_rfl, fun _ => by kernel_rfl⟩
theorem good110 (N : Nat) : Go.L.Good (e110 N) := good_of trivial
theorem gd110 (N : Nat) : CalOk Tryz.prog 110 (.ro (mkFun ks110 rs110 (F110 N))) := mkFun_ro (fine110 N) (good110 N) (by kernel_rfl)

/-! ### 91: step.doing).send -/
noncomputable def F91 (N : Nat) : V × H → Option (Int × H)
  | (a0, h) =>
    (F110 N (a0, h)).bind fun (x1, x2, x3, x4, x5, x6, x7, _) =>
    (F108 N (a0, h)).bind fun (x8, x9, x10, x11, x12, x13, x14, _) =>
    (nck a0).bind fun _ =>
    (wr h (padd a0 19) [(.int .i64 4), (.int .i64 x1), (.int .i64 x2), (.cplx .f64 x3.1 x3.2), (.str x4), (.int .i64 x5), (.int .i64 x6), x7, (.int .i64 x8), (.int .i64 x9), (.cplx .f64 x10.1 x10.2), (.str x11), (.int .i64 x12), (.int .i64 x13), x14, .nils, (.int .i64 0), (.int .i64 0), (.int .i64 0), .nils]).bind fun h15 =>
    (F110 N (a0, h15)).bind fun (x16, x17, x18, x19, x20, x21, x22, _) =>
    (some (h15 ++ [O.cells 0 [(.int .i64 6), (.int .i64 5)]]) : Option H).bind fun h23 =>
    (F154 N (x16, x17, (x18.1, x18.2), x19, x20, x21, x22, (.sl (h15).length 0 0 2 1 (some 2)), h23)).bind fun (x24, _) =>
    some (x24, h23)
abbrev ks91 : List SK := [.one .ref]
abbrev rs91 : List SK := [.one (.int .i64)]
noncomputable def e91 (N : Nat) : Env := ⟨Tryz.prog, 15, inTab [], inTab [], natTab [], inTab [], calTab [(110, .ro (mkFun ks110 rs110 (F110 N))), (108, .ro (mkFun ks108 rs108 (F108 N))), (154, .ro (mkFun ks154 rs154 (F154 N)))], altTab [], loopTab [], natTab []⟩
theorem fine91 (N : Nat) : Fine (e91 N) N 91 Tryz.f91 ks91 rs91 (F91 N) :=
  ⟨Tryz.func91, by kernel_rfl, by kernel_rfl, by kernel_rfl, loops_of trivial, by kernel_rfl, by kernel_rfl, fun _ => by kernel_rfl⟩
theorem good91 (N : Nat) : Go.L.Good (e91 N) := good_of ⟨gd110 N, ⟨gd108 N, ⟨gd154 N, trivial⟩⟩⟩
theorem gd91 (N : Nat) : CalOk Tryz.prog 91 (.full (mkFun ks91 rs91 (F91 N))) := mkFun_good (fine91 N) (good91 N)

/-! ### 92: step.doing).recv -/
noncomputable def F92 (N : Nat) : V × H → Option (Int × H)
  | (a0, h) =>
    (nck a0).bind fun _ =>
    (wr h (padd a0 39) [(.int .i64 (-1))]).bind fun h1 =>
    (nck a0).bind fun _ =>
    ((rd h1 (padd (padd a0 6) 10) 0)).bind fun x2 =>
    (nck a0).bind fun _ =>
    (L.asInt .i64 (rd h1 (padd (padd a0 6) 2) 0)).bind fun x3 =>
    (ck1 x2).bind fun _ =>
    (nck a0).bind fun _ =>
    (wr h1 (padd a0 19) [(.int .i64 5), (.int .i64 0), (.int .i64 0), (.cplx .f64 0 0), (.str (ByteArray.mk #[])), (.int .i64 0), (.int .i64 0), .nils, (.int .i64 0), (.int .i64 0), (.cplx .f64 0 0), (.str (ByteArray.mk #[])), (.int .i64 0), (.int .i64 0), .nils, x2, (.int .i64 x3), (.int .i64 0), (.int .i64 0), .nils]).bind fun h4 =>
    some (0, h4)
abbrev ks92 : List SK := [.one .ref]
abbrev rs92 : List SK := [.one (.int .i64)]
noncomputable def e92 (N : Nat) : Env := ⟨Tryz.prog, 20, inTab [], inTab [], natTab [], inTab [], calTab [], altTab [], loopTab [], natTab []⟩
theorem fine92 (N : Nat) : Fine (e92 N) N 92 Tryz.f92 ks92 rs92 (F92 N) :=
  ⟨Tryz.func92, by kernel_rfl, by kernel_rfl, by kernel_rfl, loops_of trivial, by kernel_rfl, by kernel_rfl, fun _ => by kernel_rfl⟩
theorem good92 (N : Nat) : Go.L.Good (e92 N) := good_of trivial
theorem gd92 (N : Nat) : CalOk Tryz.prog 92 (.full (mkFun ks92 rs92 (F92 N))) := mkFun_good (fine92 N) (good92 N)

/-! ### 93: step.doing).spawn -/
noncomputable def F93 (N : Nat) : V × H → Option (Int × H)
  | (a0, h) =>
    (nck a0).bind fun _ =>
    (L.asInt .i64 (rd h (padd (padd a0 6) 1) 0)).bind fun x1 =>
    (nck a0).bind fun _ =>
    (L.asInt .i64 (rd h (padd (padd a0 6) 2) 0)).bind fun x2 =>
    (nck a0).bind fun _ =>
    ((rd h (padd a0 18) 0)).bind fun x3 =>
    (ck1 x3).bind fun _ =>
    (nck a0).bind fun _ =>
    (wr h (padd a0 19) [(.int .i64 6), (.int .i64 0), (.int .i64 0), (.cplx .f64 0 0), (.str (ByteArray.mk #[])), (.int .i64 0), (.int .i64 0), .nils, (.int .i64 0), (.int .i64 0), (.cplx .f64 0 0), (.str (ByteArray.mk #[])), (.int .i64 0), (.int .i64 0), .nils, .nils, (.int .i64 0), (.int .i64 x1), (.int .i64 x2), x3]).bind fun h4 =>
    some (0, h4)
abbrev ks93 : List SK := [.one .ref]
abbrev rs93 : List SK := [.one (.int .i64)]
noncomputable def e93 (N : Nat) : Env := ⟨Tryz.prog, 21, inTab [], inTab [], natTab [], inTab [], calTab [], altTab [], loopTab [], natTab []⟩
theorem fine93 (N : Nat) : Fine (e93 N) N 93 Tryz.f93 ks93 rs93 (F93 N) :=
  ⟨Tryz.func93, by kernel_rfl, by kernel_rfl, by kernel_rfl, loops_of trivial, by kernel_rfl, by kernel_rfl, fun _ => by kernel_rfl⟩
theorem good93 (N : Nat) : Go.L.Good (e93 N) := good_of trivial
theorem gd93 (N : Nat) : CalOk Tryz.prog 93 (.full (mkFun ks93 rs93 (F93 N))) := mkFun_good (fine93 N) (good93 N)

/-! ### 94: step.doing).timer -/
noncomputable def F94 (N : Nat) : V × H → Option (Int × H)
  | (a0, h) =>
    (F110 N (a0, h)).bind fun (x1, x2, x3, x4, x5, x6, x7, _) =>
    (F108 N (a0, h)).bind fun (x8, x9, x10, x11, x12, x13, x14, _) =>
    (nck a0).bind fun _ =>
    (wr h (padd a0 19) [(.int .i64 7), (.int .i64 0), (.int .i64 0), (.cplx .f64 0 0), (.str (ByteArray.mk #[])), (.int .i64 0), (.int .i64 0), .nils, (.int .i64 x8), (.int .i64 x9), (.cplx .f64 x10.1 x10.2), (.str x11), (.int .i64 x12), (.int .i64 x13), x14, .nils, (.int .i64 x2), (.int .i64 0), (.int .i64 0), .nils]).bind fun h15 =>
    (F110 N (a0, h15)).bind fun (x16, x17, x18, x19, x20, x21, x22, _) =>
    (if (x16 != 3) = true then (
    some (32, h15))
    else (
    (F110 N (a0, h15)).bind fun (x23, x24, x25, x26, x27, x28, x29, _) =>
    (if (decide (x24 < 0)) = true then (
    some (true, h15))
    else (
    (F110 N (a0, h15)).bind fun (x32, x33, x34, x35, x36, x37, x38, _) =>
    some ((decide (x33 > 1048576)), h15))).bind fun (b30, h31) =>
    (if b30 = true then (
    some (31, h31))
    else (
    some (0, h31)))))
abbrev ks94 : List SK := [.one .ref]
abbrev rs94 : List SK := [.one (.int .i64)]
noncomputable def e94 (N : Nat) : Env := ⟨Tryz.prog, 26, inTab [], inTab [], natTab [], inTab [], calTab [(110, .ro (mkFun ks110 rs110 (F110 N))), (108, .ro (mkFun ks108 rs108 (F108 N)))], altTab [], loopTab [], natTab []⟩
theorem fine94 (N : Nat) : Fine (e94 N) N 94 Tryz.f94 ks94 rs94 (F94 N) :=
  ⟨Tryz.func94, by kernel_rfl, by kernel_rfl, by kernel_rfl, loops_of trivial, by kernel_rfl, by kernel_rfl, fun _ => by kernel_rfl⟩
theorem good94 (N : Nat) : Go.L.Good (e94 N) := good_of ⟨gd110 N, ⟨gd108 N, trivial⟩⟩
theorem gd94 (N : Nat) : CalOk Tryz.prog 94 (.full (mkFun ks94 rs94 (F94 N))) := mkFun_good (fine94 N) (good94 N)

/-! ### 158: step.doing).of -/
noncomputable def F158 (N : Nat) : V × Int × Int × H → Option (Int × H)
  | (a0, a1, a2, h) =>
    (F108 N (a0, h)).bind fun (x1, x2, x3, x4, x5, x6, x7, _) =>
    (nck a0).bind fun _ =>
    (wr h (padd a0 19) [(.int .i64 a1), (.int .i64 x1), (.int .i64 x2), (.cplx .f64 x3.1 x3.2), (.str x4), (.int .i64 x5), (.int .i64 x6), x7, (.int .i64 0), (.int .i64 0), (.cplx .f64 0 0), (.str (ByteArray.mk #[])), (.int .i64 0), (.int .i64 0), .nils, .nils, (.int .i64 0), (.int .i64 0), (.int .i64 0), .nils]).bind fun h8 =>
    (F108 N (a0, h8)).bind fun (x9, x10, x11, x12, x13, x14, x15, _) =>
    (if (x9 != a2) = true then (
    some (32, h8))
    else (
    some (0, h8)))
abbrev ks158 : List SK := [.one .ref, .one (.int .i64), .one (.int .i64)]
abbrev rs158 : List SK := [.one (.int .i64)]
noncomputable def e158 (N : Nat) : Env := ⟨Tryz.prog, 19, inTab [], inTab [], natTab [], inTab [], calTab [(108, .ro (mkFun ks108 rs108 (F108 N)))], altTab [], loopTab [], natTab []⟩
theorem fine158 (N : Nat) : Fine (e158 N) N 158 Tryz.f158 ks158 rs158 (F158 N) :=
  ⟨Tryz.func158, by kernel_rfl, by kernel_rfl, by kernel_rfl, loops_of trivial, by kernel_rfl, by kernel_rfl, fun _ => by kernel_rfl⟩
theorem good158 (N : Nat) : Go.L.Good (e158 N) := good_of ⟨gd108 N, trivial⟩
theorem gd158 (N : Nat) : CalOk Tryz.prog 158 (.full (mkFun ks158 rs158 (F158 N))) := mkFun_good (fine158 N) (good158 N)

/-! ### 95: step.doing).cancel -/
noncomputable def F95 (N : Nat) : V × H → Option (Int × H)
  | (a0, h) =>
    (F158 N (a0, 8, 7, h)).bind fun (x1, h2) =>
    some (x1, h2)
abbrev ks95 : List SK := [.one .ref]
abbrev rs95 : List SK := [.one (.int .i64)]
noncomputable def e95 (N : Nat) : Env := ⟨Tryz.prog, 5, inTab [], inTab [], natTab [], inTab [], calTab [(158, .full (mkFun ks158 rs158 (F158 N)))], altTab [], loopTab [], natTab []⟩
theorem fine95 (N : Nat) : Fine (e95 N) N 95 Tryz.f95 ks95 rs95 (F95 N) :=
  ⟨Tryz.func95, by kernel_rfl, by kernel_rfl, by kernel_rfl, loops_of trivial, by kernel_rfl, by kernel_rfl, fun _ => by kernel_rfl⟩
theorem good95 (N : Nat) : Go.L.Good (e95 N) := good_of ⟨gd158 N, trivial⟩
theorem gd95 (N : Nat) : CalOk Tryz.prog 95 (.full (mkFun ks95 rs95 (F95 N))) := mkFun_good (fine95 N) (good95 N)

/-! ### 96: step.doing).link -/
noncomputable def F96 (N : Nat) : V × H → Option (Int × H)
  | (a0, h) =>
    (F158 N (a0, 9, 6, h)).bind fun (x1, h2) =>
    some (x1, h2)
abbrev ks96 : List SK := [.one .ref]
abbrev rs96 : List SK := [.one (.int .i64)]
noncomputable def e96 (N : Nat) : Env := ⟨Tryz.prog, 5, inTab [], inTab [], natTab [], inTab [], calTab [(158, .full (mkFun ks158 rs158 (F158 N)))], altTab [], loopTab [], natTab []⟩
theorem fine96 (N : Nat) : Fine (e96 N) N 96 Tryz.f96 ks96 rs96 (F96 N) :=
  ⟨Tryz.func96, by kernel_rfl, by kernel_rfl, by kernel_rfl, loops_of trivial, by kernel_rfl, by kernel_rfl, fun _ => by kernel_rfl⟩
theorem good96 (N : Nat) : Go.L.Good (e96 N) := good_of ⟨gd158 N, trivial⟩
theorem gd96 (N : Nat) : CalOk Tryz.prog 96 (.full (mkFun ks96 rs96 (F96 N))) := mkFun_good (fine96 N) (good96 N)

/-! ### 97: step.doing).unlink -/
noncomputable def F97 (N : Nat) : V × H → Option (Int × H)
  | (a0, h) =>
    (F158 N (a0, 10, 6, h)).bind fun (x1, h2) =>
    some (x1, h2)
abbrev ks97 : List SK := [.one .ref]
abbrev rs97 : List SK := [.one (.int .i64)]
noncomputable def e97 (N : Nat) : Env := ⟨Tryz.prog, 5, inTab [], inTab [], natTab [], inTab [], calTab [(158, .full (mkFun ks158 rs158 (F158 N)))], altTab [], loopTab [], natTab []⟩
theorem fine97 (N : Nat) : Fine (e97 N) N 97 Tryz.f97 ks97 rs97 (F97 N) :=
  ⟨Tryz.func97, by kernel_rfl, by kernel_rfl, by kernel_rfl, loops_of trivial, by kernel_rfl, by kernel_rfl, fun _ => by kernel_rfl⟩
theorem good97 (N : Nat) : Go.L.Good (e97 N) := good_of ⟨gd158 N, trivial⟩
theorem gd97 (N : Nat) : CalOk Tryz.prog 97 (.full (mkFun ks97 rs97 (F97 N))) := mkFun_good (fine97 N) (good97 N)

/-! ### 98: step.doing).monitor -/
noncomputable def F98 (N : Nat) : V × H → Option (Int × H)
  | (a0, h) =>
    (F158 N (a0, 11, 6, h)).bind fun (x1, h2) =>
    some (x1, h2)
abbrev ks98 : List SK := [.one .ref]
abbrev rs98 : List SK := [.one (.int .i64)]
noncomputable def e98 (N : Nat) : Env := ⟨Tryz.prog, 5, inTab [], inTab [], natTab [], inTab [], calTab [(158, .full (mkFun ks158 rs158 (F158 N)))], altTab [], loopTab [], natTab []⟩
theorem fine98 (N : Nat) : Fine (e98 N) N 98 Tryz.f98 ks98 rs98 (F98 N) :=
  ⟨Tryz.func98, by kernel_rfl, by kernel_rfl, by kernel_rfl, loops_of trivial, by kernel_rfl, by kernel_rfl, fun _ => by kernel_rfl⟩
theorem good98 (N : Nat) : Go.L.Good (e98 N) := good_of ⟨gd158 N, trivial⟩
theorem gd98 (N : Nat) : CalOk Tryz.prog 98 (.full (mkFun ks98 rs98 (F98 N))) := mkFun_good (fine98 N) (good98 N)

/-! ### 99: step.doing).demon -/
noncomputable def F99 (N : Nat) : V × H → Option (Int × H)
  | (a0, h) =>
    (F158 N (a0, 12, 7, h)).bind fun (x1, h2) =>
    some (x1, h2)
abbrev ks99 : List SK := [.one .ref]
abbrev rs99 : List SK := [.one (.int .i64)]
noncomputable def e99 (N : Nat) : Env := ⟨Tryz.prog, 5, inTab [], inTab [], natTab [], inTab [], calTab [(158, .full (mkFun ks158 rs158 (F158 N)))], altTab [], loopTab [], natTab []⟩
theorem fine99 (N : Nat) : Fine (e99 N) N 99 Tryz.f99 ks99 rs99 (F99 N) :=
  ⟨Tryz.func99, by kernel_rfl, by kernel_rfl, by kernel_rfl, loops_of trivial, by kernel_rfl, by kernel_rfl, fun _ => by kernel_rfl⟩
theorem good99 (N : Nat) : Go.L.Good (e99 N) := good_of ⟨gd158 N, trivial⟩
theorem gd99 (N : Nat) : CalOk Tryz.prog 99 (.full (mkFun ks99 rs99 (F99 N))) := mkFun_good (fine99 N) (good99 N)

/-! ### 159: step.doing).with -/
noncomputable def F159 (N : Nat) : V × Int × H → Option (Int × H)
  | (a0, a1, h) =>
    (F108 N (a0, h)).bind fun (x1, x2, x3, x4, x5, x6, x7, _) =>
    (nck a0).bind fun _ =>
    (wr h (padd a0 19) [(.int .i64 a1), (.int .i64 0), (.int .i64 0), (.cplx .f64 0 0), (.str (ByteArray.mk #[])), (.int .i64 0), (.int .i64 0), .nils, (.int .i64 x1), (.int .i64 x2), (.cplx .f64 x3.1 x3.2), (.str x4), (.int .i64 x5), (.int .i64 x6), x7, .nils, (.int .i64 0), (.int .i64 0), (.int .i64 0), .nils]).bind fun h8 =>
    some (0, h8)
abbrev ks159 : List SK := [.one .ref, .one (.int .i64)]
abbrev rs159 : List SK := [.one (.int .i64)]
noncomputable def e159 (N : Nat) : Env := ⟨Tryz.prog, 12, inTab [], inTab [], natTab [], inTab [], calTab [(108, .ro (mkFun ks108 rs108 (F108 N)))], altTab [], loopTab [], natTab []⟩
theorem fine159 (N : Nat) : Fine (e159 N) N 159 Tryz.f159 ks159 rs159 (F159 N) :=
  ⟨Tryz.func159, by kernel_rfl, by kernel_rfl, by kernel_rfl, loops_of trivial, by kernel_rfl, by kernel_rfl, fun _ => by kernel_rfl⟩
theorem good159 (N : Nat) : Go.L.Good (e159 N) := good_of ⟨gd108 N, trivial⟩
theorem gd159 (N : Nat) : CalOk Tryz.prog 159 (.full (mkFun ks159 rs159 (F159 N))) := mkFun_good (fine159 N) (good159 N)

/-! ### 100: step.doing).trap -/
noncomputable def F100 (N : Nat) : V × H → Option (Int × H)
  | (a0, h) =>
    (F159 N (a0, 13, h)).bind fun (x1, h2) =>
    (F108 N (a0, h2)).bind fun (x3, x4, x5, x6, x7, x8, x9, _) =>
    (some (h2 ++ [O.cells 0 [(.int .i64 2)]]) : Option H).bind fun h10 =>
    (F154 N (x3, x4, (x5.1, x5.2), x6, x7, x8, x9, (.sl (h2).length 0 0 1 1 (some 1)), h10)).bind fun (x11, _) =>
    some (x11, h10)
abbrev ks100 : List SK := [.one .ref]
abbrev rs100 : List SK := [.one (.int .i64)]
noncomputable def e100 (N : Nat) : Env := ⟨Tryz.prog, 9, inTab [], inTab [], natTab [], inTab [], calTab [(159, .full (mkFun ks159 rs159 (F159 N))), (108, .ro (mkFun ks108 rs108 (F108 N))), (154, .ro (mkFun ks154 rs154 (F154 N)))], altTab [], loopTab [], natTab []⟩
theorem fine100 (N : Nat) : Fine (e100 N) N 100 Tryz.f100 ks100 rs100 (F100 N) :=
  ⟨Tryz.func100, by kernel_rfl, by kernel_rfl, by kernel_rfl, loops_of trivial, by kernel_rfl, by kernel_rfl, fun _ => by kernel_rfl⟩
theorem good100 (N : Nat) : Go.L.Good (e100 N) := good_of ⟨gd159 N, ⟨gd108 N, ⟨gd154 N, trivial⟩⟩⟩
theorem gd100 (N : Nat) : CalOk Tryz.prog 100 (.full (mkFun ks100 rs100 (F100 N))) := mkFun_good (fine100 N) (good100 N)

/-! ### 101: step.doing).name -/
noncomputable def F101 (N : Nat) : V × H → Option (Int × H)
  | (a0, h) =>
    (F159 N (a0, 14, h)).bind fun (x1, h2) =>
    (F108 N (a0, h2)).bind fun (x3, x4, x5, x6, x7, x8, x9, _) =>
    (some (h2 ++ [O.cells 0 [(.int .i64 5)]]) : Option H).bind fun h10 =>
    (F154 N (x3, x4, (x5.1, x5.2), x6, x7, x8, x9, (.sl (h2).length 0 0 1 1 (some 1)), h10)).bind fun (x11, _) =>
    some (x11, h10)
abbrev ks101 : List SK := [.one .ref]
abbrev rs101 : List SK := [.one (.int .i64)]
noncomputable def e101 (N : Nat) : Env := ⟨Tryz.prog, 9, inTab [], inTab [], natTab [], inTab [], calTab [(159, .full (mkFun ks159 rs159 (F159 N))), (108, .ro (mkFun ks108 rs108 (F108 N))), (154, .ro (mkFun ks154 rs154 (F154 N)))], altTab [], loopTab [], natTab []⟩
theorem fine101 (N : Nat) : Fine (e101 N) N 101 Tryz.f101 ks101 rs101 (F101 N) :=
  ⟨Tryz.func101, by kernel_rfl, by kernel_rfl, by kernel_rfl, loops_of trivial, by kernel_rfl, by kernel_rfl, fun _ => by kernel_rfl⟩
theorem good101 (N : Nat) : Go.L.Good (e101 N) := good_of ⟨gd159 N, ⟨gd108 N, ⟨gd154 N, trivial⟩⟩⟩
theorem gd101 (N : Nat) : CalOk Tryz.prog 101 (.full (mkFun ks101 rs101 (F101 N))) := mkFun_good (fine101 N) (good101 N)

/-! ### 102: step.doing).where -/
noncomputable def F102 (N : Nat) : V × H → Option (Int × H)
  | (a0, h) =>
    (F159 N (a0, 15, h)).bind fun (x1, h2) =>
    (F108 N (a0, h2)).bind fun (x3, x4, x5, x6, x7, x8, x9, _) =>
    (some (h2 ++ [O.cells 0 [(.int .i64 5)]]) : Option H).bind fun h10 =>
    (F154 N (x3, x4, (x5.1, x5.2), x6, x7, x8, x9, (.sl (h2).length 0 0 1 1 (some 1)), h10)).bind fun (x11, _) =>
    some (x11, h10)
abbrev ks102 : List SK := [.one .ref]
abbrev rs102 : List SK := [.one (.int .i64)]
noncomputable def e102 (N : Nat) : Env := ⟨Tryz.prog, 9, inTab [], inTab [], natTab [], inTab [], calTab [(159, .full (mkFun ks159 rs159 (F159 N))), (108, .ro (mkFun ks108 rs108 (F108 N))), (154, .ro (mkFun ks154 rs154 (F154 N)))], altTab [], loopTab [], natTab []⟩
theorem fine102 (N : Nat) : Fine (e102 N) N 102 Tryz.f102 ks102 rs102 (F102 N) :=
  ⟨Tryz.func102, by kernel_rfl, by kernel_rfl, by kernel_rfl, loops_of trivial, by kernel_rfl, by kernel_rfl, fun _ => by kernel_rfl⟩
theorem good102 (N : Nat) : Go.L.Good (e102 N) := good_of ⟨gd159 N, ⟨gd108 N, ⟨gd154 N, trivial⟩⟩⟩
theorem gd102 (N : Nat) : CalOk Tryz.prog 102 (.full (mkFun ks102 rs102 (F102 N))) := mkFun_good (fine102 N) (good102 N)

/-! ### 103: step.doing).out -/
noncomputable def F103 (N : Nat) : V × H → Option (Int × H)
  | (a0, h) =>
    (F159 N (a0, 16, h)).bind fun (x1, h2) =>
    some (x1, h2)
abbrev ks103 : List SK := [.one .ref]
abbrev rs103 : List SK := [.one (.int .i64)]
noncomputable def e103 (N : Nat) : Env := ⟨Tryz.prog, 5, inTab [], inTab [], natTab [], inTab [], calTab [(159, .full (mkFun ks159 rs159 (F159 N)))], altTab [], loopTab [], natTab []⟩
theorem fine103 (N : Nat) : Fine (e103 N) N 103 Tryz.f103 ks103 rs103 (F103 N) :=
  ⟨Tryz.func103, by kernel_rfl, by kernel_rfl, by kernel_rfl, loops_of trivial, by kernel_rfl, by kernel_rfl, fun _ => by kernel_rfl⟩
theorem good103 (N : Nat) : Go.L.Good (e103 N) := good_of ⟨gd159 N, trivial⟩
theorem gd103 (N : Nat) : CalOk Tryz.prog 103 (.full (mkFun ks103 rs103 (F103 N))) := mkFun_good (fine103 N) (good103 N)

/-! ### 104: step.doing).exit -/
noncomputable def F104 (N : Nat) : V × H → Option (Int × H)
  | (a0, h) =>
    (nck a0).bind fun _ =>
    (wr h (padd a0 39) [(.int .i64 (-1))]).bind fun h1 =>
    (F159 N (a0, 17, h1)).bind fun (x2, h3) =>
    some (x2, h3)
abbrev ks104 : List SK := [.one .ref]
abbrev rs104 : List SK := [.one (.int .i64)]
noncomputable def e104 (N : Nat) : Env := ⟨Tryz.prog, 8, inTab [], inTab [], natTab [], inTab [], calTab [(159, .full (mkFun ks159 rs159 (F159 N)))], altTab [], loopTab [], natTab []⟩
theorem fine104 (N : Nat) : Fine (e104 N) N 104 Tryz.f104 ks104 rs104 (F104 N) :=
  ⟨Tryz.func104, by kernel_rfl, by kernel_rfl, by kernel_rfl, loops_of trivial, by kernel_rfl, by kernel_rfl, fun _ => by kernel_rfl⟩
theorem good104 (N : Nat) : Go.L.Good (e104 N) := good_of ⟨gd159 N, trivial⟩
theorem gd104 (N : Nat) : CalOk Tryz.prog 104 (.full (mkFun ks104 rs104 (F104 N))) := mkFun_good (fine104 N) (good104 N)

/-! ### 105: step.doing).yield -/
noncomputable def F105 (N : Nat) : V × H → Option (Int × H)
  | (a0, h) =>
    (F157 N (a0, 18, h)).bind fun (x1, h2) =>
    some (x1, h2)
abbrev ks105 : List SK := [.one .ref]
abbrev rs105 : List SK := [.one (.int .i64)]
noncomputable def e105 (N : Nat) : Env := ⟨Tryz.prog, 5, inTab [], inTab [], natTab [], inTab [], calTab [(157, .full (mkFun ks157 rs157 (F157 N)))], altTab [], loopTab [], natTab []⟩
theorem fine105 (N : Nat) : Fine (e105 N) N 105 Tryz.f105 ks105 rs105 (F105 N) :=
  ⟨Tryz.func105, by kernel_rfl, by kernel_rfl, by kernel_rfl, loops_of trivial, by kernel_rfl, by kernel_rfl, fun _ => by kernel_rfl⟩
theorem good105 (N : Nat) : Go.L.Good (e105 N) := good_of ⟨gd157 N, trivial⟩
theorem gd105 (N : Nat) : CalOk Tryz.prog 105 (.full (mkFun ks105 rs105 (F105 N))) := mkFun_good (fine105 N) (good105 N)

/-! ### 46: step.ways -/
noncomputable def F46 (N : Nat) : H → Option (V × H)
  | h =>
    (some (h ++ [O.cells 0 [(.int .i64 1), (.fn 76 []), (.int .i64 2), (.fn 77 []), (.int .i64 3), (.fn 78 []), (.int .i64 4), (.fn 79 []), (.int .i64 5), (.fn 80 []), (.int .i64 17), (.fn 81 []), (.int .i64 18), (.fn 82 []), (.int .i64 19), (.fn 83 []), (.int .i64 25), (.fn 84 []), (.int .i64 26), (.fn 85 []), (.int .i64 27), (.fn 86 []), (.int .i64 28), (.fn 87 []), (.int .i64 29), (.fn 88 []), (.int .i64 30), (.fn 89 []), (.int .i64 31), (.fn 90 []), (.int .i64 32), (.fn 91 []), (.int .i64 33), (.fn 92 []), (.int .i64 34), (.fn 93 []), (.int .i64 35), (.fn 94 []), (.int .i64 36), (.fn 95 []), (.int .i64 37), (.fn 96 []), (.int .i64 38), (.fn 97 []), (.int .i64 39), (.fn 98 []), (.int .i64 40), (.fn 99 []), (.int .i64 41), (.fn 100 []), (.int .i64 42), (.fn 101 []), (.int .i64 43), (.fn 102 []), (.int .i64 44), (.fn 103 []), (.int .i64 45), (.fn 104 []), (.int .i64 46), (.fn 105 [])]]) : Option H).bind fun h1 =>
    some ((.sl (h).length 0 0 30 2 (some 30)), h1)
abbrev ks46 : List SK := []
abbrev rs46 : List SK := [.one .ref]
noncomputable def e46 (N : Nat) : Env := ⟨Tryz.prog, 32, inTab [], inTab [], natTab [], inTab [], calTab [], altTab [], loopTab [], natTab []⟩
theorem fine46 (N : Nat) : Fine (e46 N) N 46 Tryz.f46 ks46 rs46 (F46 N) :=
  ⟨Tryz.func46, by kernel_rfl, by kernel_rfl, by kernel_rfl, loops_of trivial, by kernel_rfl, by kernel_rfl, fun _ => by kernel_rfl⟩
theorem good46 (N : Nat) : Go.L.Good (e46 N) := good_of trivial
theorem gd46 (N : Nat) : CalOk Tryz.prog 46 (.full (mkFun ks46 rs46 (F46 N))) := mkFun_good (fine46 N) (good46 N)

/-! ### 160: term.num -/
noncomputable def F160 (N : Nat) : Int × H → Option (Int × Int × (Nat × Nat) × ByteArray × Int × Int × V × H)
  | (a0, h) =>
    some (3, a0, (0, 0), (ByteArray.mk #[]), 0, 0, .nils, h)
abbrev ks160 : List SK := [.one (.int .i64)]
abbrev rs160 : List SK := [.agg [(.int .i64), (.int .i64), (.cplx .f64), .str, (.int .i64), (.int .i64), .ref]]
noncomputable def e160 (N : Nat) : Env := ⟨Tryz.prog, 5, inTab [2], inTab [], natTab [(2, 2)], inTab [], calTab [], altTab [], loopTab [], natTab []⟩
theorem fine160 (N : Nat) : Fine (e160 N) N 160 Tryz.f160 ks160 rs160 (F160 N) :=
  ⟨Tryz.func160, by kernel_rfl, by kernel_rfl, by kernel_rfl, loops_of trivial, by kernel_rfl, by kernel_rfl, fun _ => by kernel_rfl⟩
theorem good160 (N : Nat) : Go.L.Good (e160 N) := good_of trivial
theorem gd160 (N : Nat) : CalOk Tryz.prog 160 (.ro (mkFun ks160 rs160 (F160 N))) := mkFun_ro (fine160 N) (good160 N) (by kernel_rfl)

/-! ### 161: term.made -/
noncomputable def F161 (N : Nat) : Int × Int × H → Option (Int × Int × (Nat × Nat) × ByteArray × Int × Int × V × Int × H)
  | (a0, a1, h) =>
    (if (decide (a0 < (-1073741824))) = true then (
    some (true, h))
    else (
    some ((decide (a0 > 1073741824)), h))).bind fun (b1, h2) =>
    (if b1 = true then (
    some (true, h2))
    else (
    some ((decide (a1 < (-1073741824))), h2))).bind fun (b3, h4) =>
    (if b3 = true then (
    some (true, h4))
    else (
    some ((decide (a1 > 1073741824)), h4))).bind fun (b5, h6) =>
    (if b5 = true then (
    some (0, 0, (0, 0), (ByteArray.mk #[]), 0, 0, .nils, 31, h6))
    else (
    some (4, 0, ((FloatKind.f64.nearest a0), (FloatKind.f64.nearest a1)), (ByteArray.mk #[]), 0, 0, .nils, 0, h6)))
abbrev ks161 : List SK := [.one (.int .i64), .one (.int .i64)]
abbrev rs161 : List SK := [.agg [(.int .i64), (.int .i64), (.cplx .f64), .str, (.int .i64), (.int .i64), .ref], .one (.int .i64)]
noncomputable def e161 (N : Nat) : Env := ⟨Tryz.prog, 27, inTab [4], inTab [], natTab [(4, 4)], inTab [], calTab [], altTab [], loopTab [], natTab []⟩
theorem fine161 (N : Nat) : Fine (e161 N) N 161 Tryz.f161 ks161 rs161 (F161 N) :=
  ⟨Tryz.func161, by kernel_rfl, by kernel_rfl, by kernel_rfl, loops_of trivial, by kernel_rfl, by kernel_rfl, fun _ => by kernel_rfl⟩
theorem good161 (N : Nat) : Go.L.Good (e161 N) := good_of trivial
theorem gd161 (N : Nat) : CalOk Tryz.prog 161 (.ro (mkFun ks161 rs161 (F161 N))) := mkFun_ro (fine161 N) (good161 N) (by kernel_rfl)

/-! ### 162: term.truth -/
noncomputable def F162 (N : Nat) : Bool × H → Option (Int × Int × (Nat × Nat) × ByteArray × Int × Int × V × H)
  | (a0, h) =>
    ((if a0 = true then (
    some (0, 0, (0, 0), (ByteArray.mk #[]), 0, 0, .nils, 2, 1, (0, 0), (ByteArray.mk #[]), 0, 0, .nils, h))
    else (
    some (0, 0, (0, 0), (ByteArray.mk #[]), 0, 0, .nils, 2, 0, (0, 0), (ByteArray.mk #[]), 0, 0, .nils, h))) : Option (Int × Int × (Nat × Nat) × ByteArray × Int × Int × V × Int × Int × (Nat × Nat) × ByteArray × Int × Int × V × H)).bind fun (x1, x2, x3, x4, x5, x6, x7, x8, x9, x10, x11, x12, x13, x14, h15) =>
    some (x8, x9, (x10.1, x10.2), x11, x12, x13, x14, h15)
abbrev ks162 : List SK := [.one .bool]
abbrev rs162 : List SK := [.agg [(.int .i64), (.int .i64), (.cplx .f64), .str, (.int .i64), (.int .i64), .ref]]
noncomputable def e162 (N : Nat) : Env := ⟨Tryz.prog, 8, inTab [2, 3], inTab [], natTab [(2, 2), (3, 3), (6, 3)], inTab [], calTab [], altTab [(196613, [⟨.normal, [2, 3], [.lp 2 0, .lp 3 0], [2, 3], [.cells [(.int .i64), (.int .i64), (.cplx .f64), .str, (.int .i64), (.int .i64), .ref], .cells [(.int .i64), (.int .i64), (.cplx .f64), .str, (.int .i64), (.int .i64), .ref]]⟩])], loopTab [], natTab []⟩
theorem fine162 (N : Nat) : Fine (e162 N) N 162 Tryz.f162 ks162 rs162 (F162 N) :=
  ⟨Tryz.func162, by kernel_rfl, by kernel_rfl, by kernel_rfl, loops_of trivial, by kernel_rfl, by kernel_rfl, fun _ => by kernel_rfl⟩
theorem good162 (N : Nat) : Go.L.Good (e162 N) := good_of trivial
theorem gd162 (N : Nat) : CalOk Tryz.prog 162 (.ro (mkFun ks162 rs162 (F162 N))) := mkFun_ro (fine162 N) (good162 N) (by kernel_rfl)

/-! ### 107: term.Unary -/
noncomputable def F107 (N : Nat) : Int × Int × Int × (Nat × Nat) × ByteArray × Int × Int × V × H → Option (Int × Int × (Nat × Nat) × ByteArray × Int × Int × V × Int × H)
  | (a0, a1_0, a1_1, a1_2, a1_3, a1_4, a1_5, a1_6, h) =>
    ((if (a0 == 11) = true then (
    some (a0, (a0 == 11), a1_0, a1_1, (a1_2.1, a1_2.2), a1_3, a1_4, a1_5, a1_6, 0, 0, (0, 0), (ByteArray.mk #[]), 0, 0, .nils, h))
    else (
    (if (a0 == 12) = true then (
    some (a0, (a0 == 12), a1_0, a1_1, (a1_2.1, a1_2.2), a1_3, a1_4, a1_5, a1_6, 0, 0, (0, 0), (ByteArray.mk #[]), 0, 0, .nils, h))
    else (
    (if (a0 == 16) = true then (
    some (a0, (a0 == 16), a1_0, a1_1, (a1_2.1, a1_2.2), a1_3, a1_4, a1_5, a1_6, 0, 0, (0, 0), (ByteArray.mk #[]), 0, 0, .nils, h))
    else (
    (if (a0 == 21) = true then (
    some (a0, (a0 == 21), a1_0, a1_1, (a1_2.1, a1_2.2), a1_3, a1_4, a1_5, a1_6, 0, 0, (0, 0), (ByteArray.mk #[]), 0, 0, .nils, h))
    else (
    (if (a0 == 23) = true then (
    some (a0, (a0 == 23), a1_0, a1_1, (a1_2.1, a1_2.2), a1_3, a1_4, a1_5, a1_6, 0, 0, (0, 0), (ByteArray.mk #[]), 0, 0, .nils, h))
    else (
    some (a0, (a0 == 24), a1_0, a1_1, (a1_2.1, a1_2.2), a1_3, a1_4, a1_5, a1_6, 0, 0, (0, 0), (ByteArray.mk #[]), 0, 0, .nils, h))))))))))) : Option (Int × Bool × Int × Int × (Nat × Nat) × ByteArray × Int × Int × V × Int × Int × (Nat × Nat) × ByteArray × Int × Int × V × H)).bind fun (x1, x2, x3, x4, x5, x6, x7, x8, x9, x10, x11, x12, x13, x14, x15, x16, h17) =>
    (if x2 = true then (
    (F52 N (x3, x4, (x5.1, x5.2), x6, x7, x8, x9, h17)).bind fun (x18, h19) =>
    (if (x18 != 0) = true then (
    some (0, 0, (0, 0), (ByteArray.mk #[]), 0, 0, .nils, x18, h19))
    else (
    (if (x1 == 11) = true then (
    some ((x3 == 3), h19))
    else (
    some (false, h19))).bind fun (b20, h21) =>
    (if b20 = true then (
    (F160 N ((IntKind.i64.wrap (0 - x4)), h21)).bind fun (x22, x23, x24, x25, x26, x27, x28, _) =>
    some (x22, x23, (x24.1, x24.2), x25, x26, x27, x28, 0, h21))
    else (
    (if (x1 == 11) = true then (
    some ((x3 == 4), h21))
    else (
    some (false, h21))).bind fun (b29, h30) =>
    (if b29 = true then (
    (f2i .f64 x5.1 .i64).bind fun x31 =>
    (f2i .f64 x5.2 .i64).bind fun x32 =>
    (F161 N ((IntKind.i64.wrap (0 - x31)), (IntKind.i64.wrap (0 - x32)), h30)).bind fun (x33, x34, x35, x36, x37, x38, x39, x40, _) =>
    some (x33, x34, (x35.1, x35.2), x36, x37, x38, x39, x40, h30))
    else (
    (if (x1 == 12) = true then (
    some ((x3 == 3), h30))
    else (
    some (false, h30))).bind fun (b41, h42) =>
    (if b41 = true then (
    some (x3, x4, (x5.1, x5.2), x6, x7, x8, x9, 0, h42))
    else (
    (if (x1 == 12) = true then (
    some ((x3 == 4), h42))
    else (
    some (false, h42))).bind fun (b43, h44) =>
    (if b43 = true then (
    (f2i .f64 x5.1 .i64).bind fun x45 =>
    (f2i .f64 x5.2 .i64).bind fun x46 =>
    (F161 N (x45, (IntKind.i64.wrap (0 - x46)), h44)).bind fun (x47, x48, x49, x50, x51, x52, x53, x54, _) =>
    some (x47, x48, (x49.1, x49.2), x50, x51, x52, x53, x54, h44))
    else (
    (if (x1 == 16) = true then (
    some ((x3 == 2), h44))
    else (
    some (false, h44))).bind fun (b55, h56) =>
    (if b55 = true then (
    (F162 N ((x4 == 0), h56)).bind fun (x57, x58, x59, x60, x61, x62, x63, _) =>
    some (x57, x58, (x59.1, x59.2), x60, x61, x62, x63, 0, h56))
    else (
    (if (x1 == 21) = true then (
    (if (x3 == 9) = true then (
    some (true, h56))
    else (
    some ((x3 == 8), h56))).bind fun (b66, h67) =>
    some (b66, h67))
    else (
    some (false, h56))).bind fun (b64, h65) =>
    (if b64 = true then (
    (slen x9).bind fun n68 =>
    (F160 N (n68, h65)).bind fun (x69, x70, x71, x72, x73, x74, x75, _) =>
    some (x69, x70, (x71.1, x71.2), x72, x73, x74, x75, 0, h65))
    else (
    (if (x1 == 23) = true then (
    some ((x3 == 9), h65))
    else (
    some (false, h65))).bind fun (b76, h77) =>
    (if b76 = true then (
    (slen x9).bind fun n78 =>
    (if (n78 == 0) = true then (
    some (0, 0, (0, 0), (ByteArray.mk #[]), 0, 0, .nils, 31, h77))
    else (
    (sidx x9 0 7).bind fun q79 =>
    (L.asInt .i64 (rd h77 q79 0)).bind fun x80 =>
    (L.asInt .i64 (rd h77 q79 1)).bind fun x81 =>
    (L.asCplx .f64 (rd h77 q79 2)).bind fun x82 =>
    (L.asStr (rd h77 q79 3)).bind fun x83 =>
    (L.asInt .i64 (rd h77 q79 4)).bind fun x84 =>
    (L.asInt .i64 (rd h77 q79 5)).bind fun x85 =>
    ((rd h77 q79 6)).bind fun x86 =>
    some (x80, x81, (x82.1, x82.2), x83, x84, x85, x86, 0, h77))))
    else (
    (if (x1 == 24) = true then (
    some ((x3 == 9), h77))
    else (
    some (false, h77))).bind fun (b87, h88) =>
    (if b87 = true then (
    (slen x9).bind fun n89 =>
    (if (n89 == 0) = true then (
    some (0, 0, (0, 0), (ByteArray.mk #[]), 0, 0, .nils, 31, h88))
    else (
    (some (h88 ++ [O.cells 0 []]) : Option H).bind fun h90 =>
    (slen x9).bind fun n91 =>
    (ssl 7 x9 1 n91).bind fun v92 =>
    (scells h90 v92 7).bind fun cs95 =>
    (happ h90 (.sl (h88).length 0 0 0 7 (some 0)) 7 (snlen v92) cs95).bind fun (v93, h94) =>
    (ck1 v93).bind fun _ =>
    some (9, 0, (0, 0), (ByteArray.mk #[]), 0, 0, v93, 0, h94))))
    else (
    some (0, 0, (0, 0), (ByteArray.mk #[]), 0, 0, .nils, 32, h88))))))))))))))))))))
    else (
    some (0, 0, (0, 0), (ByteArray.mk #[]), 0, 0, .nils, 1, h17)))
abbrev ks107 : List SK := [.one (.int .i64), .agg [(.int .i64), (.int .i64), (.cplx .f64), .str, (.int .i64), (.int .i64), .ref]]
abbrev rs107 : List SK := [.agg [(.int .i64), (.int .i64), (.cplx .f64), .str, (.int .i64), (.int .i64), .ref], .one (.int .i64)]
noncomputable def e107 (N : Nat) : Env := ⟨Tryz.prog, 148, inTab [3, 4], inTab [], natTab [(3, 3), (4, 4), (23, 3), (30, 3), (34, 3), (42, 3), (46, 3), (51, 3), (63, 3), (72, 3), (76, 3), (80, 3), (92, 3), (96, 3), (106, 3), (111, 3), (121, 3), (126, 3), (136, 3), (142, 3)], inTab [], calTab [(52, .full (mkFun ks52 rs52 (F52 N))), (160, .ro (mkFun ks160 rs160 (F160 N))), (161, .ro (mkFun ks161 rs161 (F161 N))), (162, .ro (mkFun ks162 rs162 (F162 N)))], altTab [(1073741834, [⟨.normal, [0, 3, 4, 10], [.one (.int .i64), .lp 3 0, .lp 4 0, .one .bool], [3, 4], [.cells [(.int .i64), (.int .i64), (.cplx .f64), .str, (.int .i64), (.int .i64), .ref], .cells [(.int .i64), (.int .i64), (.cplx .f64), .str, (.int .i64), (.int .i64), .ref]]⟩])], loopTab [], natTab []⟩
theorem fine107 (N : Nat) : Fine (e107 N) N 107 Tryz.f107 ks107 rs107 (F107 N) :=
  ⟨Tryz.func107, by kernel_rfl, by kernel_rfl, by kernel_rfl, loops_of trivial, by kernel_rfl, by kernel_rfl, fun _ => by kernel_rfl⟩
theorem good107 (N : Nat) : Go.L.Good (e107 N) := good_of ⟨gd52 N, ⟨gd160 N, ⟨gd161 N, ⟨gd162 N, trivial⟩⟩⟩⟩
theorem gd107 (N : Nat) : CalOk Tryz.prog 107 (.full (mkFun ks107 rs107 (F107 N))) := mkFun_good (fine107 N) (good107 N)

/-! ### 47: step.doing).unary -/
noncomputable def F47 (N : Nat) : V × H → Option (Int × H)
  | (a0, h) =>
    (nck a0).bind fun _ =>
    (L.asInt .i64 (rd h (padd (padd a0 6) 0) 0)).bind fun x1 =>
    (F108 N (a0, h)).bind fun (x2, x3, x4, x5, x6, x7, x8, _) =>
    (F107 N (x1, x2, x3, (x4.1, x4.2), x5, x6, x7, x8, h)).bind fun (x9, x10, x11, x12, x13, x14, x15, x16, h17) =>
    (F106 N (a0, x9, x10, (x11.1, x11.2), x12, x13, x14, x15, x16, h17)).bind fun (x18, h19) =>
    some (x18, h19)
abbrev ks47 : List SK := [.one .ref]
abbrev rs47 : List SK := [.one (.int .i64)]
noncomputable def e47 (N : Nat) : Env := ⟨Tryz.prog, 15, inTab [], inTab [], natTab [], inTab [], calTab [(108, .ro (mkFun ks108 rs108 (F108 N))), (107, .full (mkFun ks107 rs107 (F107 N))), (106, .full (mkFun ks106 rs106 (F106 N)))], altTab [], loopTab [], natTab []⟩
theorem fine47 (N : Nat) : Fine (e47 N) N 47 Tryz.f47 ks47 rs47 (F47 N) :=
  ⟨Tryz.func47, by kernel_rfl, by kernel_rfl, by kernel_rfl, loops_of trivial, by kernel_rfl, by kernel_rfl, fun _ => by kernel_rfl⟩
theorem good47 (N : Nat) : Go.L.Good (e47 N) := good_of ⟨gd108 N, ⟨gd107 N, ⟨gd106 N, trivial⟩⟩⟩
theorem gd47 (N : Nat) : CalOk Tryz.prog 47 (.full (mkFun ks47 rs47 (F47 N))) := mkFun_good (fine47 N) (good47 N)

/-! ### 165: term.number -/
noncomputable def F165 (N : Nat) : Int × Int × (Nat × Nat) × ByteArray × Int × Int × V × H → Option (Bool × H)
  | (a0_0, a0_1, a0_2, a0_3, a0_4, a0_5, a0_6, h) =>
    (if (a0_0 == 3) = true then (
    some (true, h))
    else (
    some ((a0_0 == 4), h))).bind fun (b1, h2) =>
    some (b1, h2)
abbrev ks165 : List SK := [.agg [(.int .i64), (.int .i64), (.cplx .f64), .str, (.int .i64), (.int .i64), .ref]]
abbrev rs165 : List SK := [.one .bool]
noncomputable def e165 (N : Nat) : Env := ⟨Tryz.prog, 11, inTab [1], inTab [], natTab [(1, 1), (3, 1), (7, 1)], inTab [], calTab [], altTab [], loopTab [], natTab []⟩
theorem fine165 (N : Nat) : Fine (e165 N) N 165 Tryz.f165 ks165 rs165 (F165 N) :=
  ⟨Tryz.func165, by kernel_rfl, by kernel_rfl, by kernel_rfl, loops_of trivial, by kernel_rfl, by kernel_rfl, fun _ => by kernel_rfl⟩
theorem good165 (N : Nat) : Go.L.Good (e165 N) := good_of trivial
theorem gd165 (N : Nat) : CalOk Tryz.prog 165 (.ro (mkFun ks165 rs165 (F165 N))) := mkFun_ro (fine165 N) (good165 N) (by kernel_rfl)

/-! ### 233: term.parts -/
noncomputable def F233 (N : Nat) : Int × Int × (Nat × Nat) × ByteArray × Int × Int × V × H → Option (Int × Int × Bool × H)
  | (a0_0, a0_1, a0_2, a0_3, a0_4, a0_5, a0_6, h) =>
    (if (a0_0 == 3) = true then (
    (if (decide (a0_1 ≥ (-1073741824))) = true then (
    some ((decide (a0_1 ≤ 1073741824)), h))
    else (
    some (false, h))).bind fun (b1, h2) =>
    some (a0_1, 0, b1, h2))
    else (
    (f2i .f64 a0_2.1 .i64).bind fun x3 =>
    (f2i .f64 a0_2.2 .i64).bind fun x4 =>
    some (x3, x4, true, h)))
abbrev ks233 : List SK := [.agg [(.int .i64), (.int .i64), (.cplx .f64), .str, (.int .i64), (.int .i64), .ref]]
abbrev rs233 : List SK := [.one (.int .i64), .one (.int .i64), .one .bool]
noncomputable def e233 (N : Nat) : Env := ⟨Tryz.prog, 26, inTab [1], inTab [], natTab [(1, 1), (5, 1), (8, 1), (10, 1), (14, 1), (18, 1), (22, 1)], inTab [], calTab [], altTab [], loopTab [], natTab []⟩
theorem fine233 (N : Nat) : Fine (e233 N) N 233 Tryz.f233 ks233 rs233 (F233 N) :=
  ⟨Tryz.func233, by kernel_rfl, by kernel_rfl, by kernel_rfl, loops_of trivial, by kernel_rfl, by kernel_rfl, fun _ => by kernel_rfl⟩
theorem good233 (N : Nat) : Go.L.Good (e233 N) := good_of trivial
theorem gd233 (N : Nat) : CalOk Tryz.prog 233 (.ro (mkFun ks233 rs233 (F233 N))) := mkFun_ro (fine233 N) (good233 N) (by kernel_rfl)

/-! ### 166: term.turn -/
noncomputable def L166_0 (N : Nat) : Nat → Int × Int × Int × Int × Int × (Nat × Nat) × ByteArray × Int × Int × V × H → Option (Int × Int × Int × Int × (Nat × Nat) × ByteArray × Int × Int × V × H)
  | 0, _ => none
  | n + 1, (x15, x16, x17, x18, x19, x20, x21, x22, x23, x24, h25) =>
    (if (decide (x17 > 0)) = true then (
    L166_0 N n ((IntKind.i64.wrap (0 - x16)), x15, (IntKind.i64.wrap (x17 - 1)), x18, x19, (x20.1, x20.2), x21, x22, x23, x24, h25))
    else (
    some (x15, x16, x18, x19, (x20.1, x20.2), x21, x22, x23, x24, h25)))
noncomputable def F166 (N : Nat) : Int × Int × (Nat × Nat) × ByteArray × Int × Int × V × Int × H → Option (Int × Int × (Nat × Nat) × ByteArray × Int × Int × V × Int × H)
  | (a0_0, a0_1, a0_2, a0_3, a0_4, a0_5, a0_6, a1, h) =>
    (F233 N (a0_0, a0_1, (a0_2.1, a0_2.2), a0_3, a0_4, a0_5, a0_6, h)).bind fun (x1, x2, x3, _) =>
    (if (!x3) = true then (
    some (0, 0, (0, 0), (ByteArray.mk #[]), 0, 0, .nils, 31, h))
    else (
    (L166_0 N N (x1, x2, (Int.tmod (IntKind.i64.wrap ((Int.tmod a1 4) + 4)) 4), 0, 0, (0, 0), (ByteArray.mk #[]), 0, 0, .nils, h)).bind fun (x26, x27, x28, x29, x30, x31, x32, x33, x34, h35) =>
    (F161 N (x26, x27, h35)).bind fun (x36, x37, x38, x39, x40, x41, x42, x43, _) =>
    some (x36, x37, (x38.1, x38.2), x39, x40, x41, x42, x43, h35)))
abbrev ks166 : List SK := [.agg [(.int .i64), (.int .i64), (.cplx .f64), .str, (.int .i64), (.int .i64), .ref], .one (.int .i64)]
abbrev rs166 : List SK := [.agg [(.int .i64), (.int .i64), (.cplx .f64), .str, (.int .i64), (.int .i64), .ref], .one (.int .i64)]
noncomputable def e166 (N : Nat) : Env := ⟨Tryz.prog, 35, inTab [2, 4], inTab [], natTab [(2, 2), (4, 4)], inTab [], calTab [(233, .ro (mkFun ks233 rs233 (F233 N))), (161, .ro (mkFun ks161 rs161 (F161 N)))], altTab [], loopTab [(5, ⟨⟨.normal, [4, 6, 7, 9], [.lp 4 0, .one (.int .i64), .one (.int .i64), .one (.int .i64)], [4], [.cells [(.int .i64), (.int .i64), (.cplx .f64), .str, (.int .i64), (.int .i64), .ref]]⟩, [⟨(.exit 0), [4, 6, 7], [.lp 4 0, .one (.int .i64), .one (.int .i64)], [4], [.cells [(.int .i64), (.int .i64), (.cplx .f64), .str, (.int .i64), (.int .i64), .ref]]⟩], L166_0 N⟩)], natTab []⟩
theorem l166_0 (N : Nat) : ∀ A, (e166 N).lp (lid (loopAt Tryz.f166 0)) = some A → LoopOk (e166 N) N (loopAt Tryz.f166 0) A :=
  loopOk_of (A := ⟨⟨.normal, [4, 6, 7, 9], [.lp 4 0, .one (.int .i64), .one (.int .i64), .one (.int .i64)], [4], [.cells [(.int .i64), (.int .i64), (.cplx .f64), .str, (.int .i64), (.int .i64), .ref]]⟩, [⟨(.exit 0), [4, 6, 7], [.lp 4 0, .one (.int .i64), .one (.int .i64)], [4], [.cells [(.int .i64), (.int .i64), (.cplx .f64), .str, (.int .i64), (.int .i64), .ref]]⟩], L166_0 N⟩) (by kernel_rfl) (fun _ => rfl) (fun _ _ => by kernel_rfl)
theorem fine166 (N : Nat) : Fine (e166 N) N 166 Tryz.f166 ks166 rs166 (F166 N) :=
  ⟨Tryz.func166, by kernel_rfl, by kernel_rfl, by kernel_rfl, loops_of ⟨l166_0 N, trivial⟩, by kernel_rfl, by kernel_rfl, fun _ => by kernel_rfl⟩
theorem good166 (N : Nat) : Go.L.Good (e166 N) := good_of ⟨gd233 N, ⟨gd161 N, trivial⟩⟩
theorem gd166 (N : Nat) : CalOk Tryz.prog 166 (.ro (mkFun ks166 rs166 (F166 N))) := mkFun_ro (fine166 N) (good166 N) (by kernel_rfl)

end Go.Proofs.YtkhnngghmlpbeaaGreat
