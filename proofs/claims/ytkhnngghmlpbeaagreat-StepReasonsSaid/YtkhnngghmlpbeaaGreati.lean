/- The functions that the laws reach, as plain ones (printed by gen.py). -/
import Derived.Test.YtkhnngghmlpbeaaGreatL39
import Derived.Test.YtkhnngghmlpbeaaGreath
import Derived.Test.YtkhnngghmlpbeaaGreatChecked
import Derived.KernelRfl
set_option linter.unusedVariables false
set_option maxRecDepth 100000
namespace Go.Proofs.YtkhnngghmlpbeaaGreat
open Go.L

/-! ### 307: bits.Mul64 -/
noncomputable def F307 (N : Nat) : Int × Int × H → Option (Int × Int × H)
  | (a0, a1, h) =>
    some ((IntKind.u64.wrap ((IntKind.u64.wrap ((IntKind.u64.wrap ((Int.fdiv a0 (2 ^ (min (Int.toNat 32) IntKind.u64.bits))) * (Int.fdiv a1 (2 ^ (min (Int.toNat 32) IntKind.u64.bits))))) + (Int.fdiv (IntKind.u64.wrap ((IntKind.u64.wrap ((Int.fdiv a0 (2 ^ (min (Int.toNat 32) IntKind.u64.bits))) * (IntKind.u64.wrap (((BitVec.ofInt IntKind.u64.bits a1) &&& (BitVec.ofInt IntKind.u64.bits 4294967295)).toNat)))) + (Int.fdiv (IntKind.u64.wrap ((IntKind.u64.wrap (((BitVec.ofInt IntKind.u64.bits a0) &&& (BitVec.ofInt IntKind.u64.bits 4294967295)).toNat)) * (IntKind.u64.wrap (((BitVec.ofInt IntKind.u64.bits a1) &&& (BitVec.ofInt IntKind.u64.bits 4294967295)).toNat)))) (2 ^ (min (Int.toNat 32) IntKind.u64.bits))))) (2 ^ (min (Int.toNat 32) IntKind.u64.bits))))) + (Int.fdiv (IntKind.u64.wrap ((IntKind.u64.wrap (((BitVec.ofInt IntKind.u64.bits (IntKind.u64.wrap ((IntKind.u64.wrap ((Int.fdiv a0 (2 ^ (min (Int.toNat 32) IntKind.u64.bits))) * (IntKind.u64.wrap (((BitVec.ofInt IntKind.u64.bits a1) &&& (BitVec.ofInt IntKind.u64.bits 4294967295)).toNat)))) + (Int.fdiv (IntKind.u64.wrap ((IntKind.u64.wrap (((BitVec.ofInt IntKind.u64.bits a0) &&& (BitVec.ofInt IntKind.u64.bits 4294967295)).toNat)) * (IntKind.u64.wrap (((BitVec.ofInt IntKind.u64.bits a1) &&& (BitVec.ofInt IntKind.u64.bits 4294967295)).toNat)))) (2 ^ (min (Int.toNat 32) IntKind.u64.bits)))))) &&& (BitVec.ofInt IntKind.u64.bits 4294967295)).toNat)) + (IntKind.u64.wrap ((IntKind.u64.wrap (((BitVec.ofInt IntKind.u64.bits a0) &&& (BitVec.ofInt IntKind.u64.bits 4294967295)).toNat)) * (Int.fdiv a1 (2 ^ (min (Int.toNat 32) IntKind.u64.bits))))))) (2 ^ (min (Int.toNat 32) IntKind.u64.bits))))), (IntKind.u64.wrap (a0 * a1)), h)
abbrev ks307 : List SK := [.one (.int .u64), .one (.int .u64)]
abbrev rs307 : List SK := [.one (.int .u64), .one (.int .u64)]
noncomputable def e307 (N : Nat) : Env := ⟨Tryz.prog, 51, inTab [], inTab [], natTab [], inTab [], calTab [], altTab [], loopTab [], natTab []⟩
theorem fine307 (N : Nat) : Fine (e307 N) N 307 Tryz.f307 ks307 rs307 (F307 N) :=
  ⟨Tryz.func307, by kernel_rfl, by kernel_rfl, by kernel_rfl, loops_of trivial, by kernel_rfl, by kernel_rfl, fun _ => by kernel_rfl⟩
theorem good307 (N : Nat) : Go.L.Good (e307 N) := good_of trivial
theorem gd307 : CalOk Tryz.prog 307 (.pure (mkP ks307 rs307 (F307 100))) := mkP_good (fine307 100) (good307 100) (by kernel_rfl) (by kernel_rfl)

/-! ### 234: term.ints -/
noncomputable def F234 (N : Nat) : Int × Int × Int × H → Option (Int × Int × (Nat × Nat) × ByteArray × Int × Int × V × Int × H)
  | (a0, a1, a2, h) =>
    ((if (a0 == 7) = true then (
    some (.inl ((IntKind.i64.wrap (a1 - a2)), 0, 0, (0, 0), (ByteArray.mk #[]), 0, 0, .nils, h)))
    else (
    (if (a0 == 8) = true then (
    (F307 100 ((IntKind.u64.wrap (if (IntKind.i64.wrap (0 - a1)) > a1 then (IntKind.i64.wrap (0 - a1)) else a1)), (IntKind.u64.wrap (if (IntKind.i64.wrap (0 - a2)) > a2 then (IntKind.i64.wrap (0 - a2)) else a2)), [])).bind fun (x1, x2, _) =>
    (if (x1 != 0) = true then (
    some (true, h))
    else (
    some ((decide (x2 > 4611686018427387903)), h))).bind fun (b3, h4) =>
    (if b3 = true then (
    some (.inr (31, 0, 0, (0, 0), (ByteArray.mk #[]), 0, 0, .nils, h4)))
    else (
    some (.inl ((IntKind.i64.wrap (a1 * a2)), 0, 0, (0, 0), (ByteArray.mk #[]), 0, 0, .nils, h4)))))
    else (
    some (.inl ((IntKind.i64.wrap (a1 + a2)), 0, 0, (0, 0), (ByteArray.mk #[]), 0, 0, .nils, h)))))) : Option ((Int × Int × Int × (Nat × Nat) × ByteArray × Int × Int × V × H) ⊕ (Int × Int × Int × (Nat × Nat) × ByteArray × Int × Int × V × H))).bind fun o5 => match o5 with
    | .inl (x6, x7, x8, x9, x10, x11, x12, x13, h14) => (
    (if (decide (x6 < (-4611686018427387903))) = true then (
    some (true, h14))
    else (
    some ((decide (x6 > 4611686018427387903)), h14))).bind fun (b15, h16) =>
    (if b15 = true then (
    some (0, 0, (0, 0), (ByteArray.mk #[]), 0, 0, .nils, 31, h16))
    else (
    (F160 N (x6, h16)).bind fun (x17, x18, x19, x20, x21, x22, x23, _) =>
    some (x17, x18, (x19.1, x19.2), x20, x21, x22, x23, 0, h16))))
    | .inr (x24, x25, x26, x27, x28, x29, x30, x31, h32) => (
    some (x25, x26, (x27.1, x27.2), x28, x29, x30, x31, x24, h32))
abbrev ks234 : List SK := [.one (.int .i64), .one (.int .i64), .one (.int .i64)]
abbrev rs234 : List SK := [.agg [(.int .i64), (.int .i64), (.cplx .f64), .str, (.int .i64), (.int .i64), .ref], .one (.int .i64)]
noncomputable def e234 (N : Nat) : Env := ⟨Tryz.prog, 55, inTab [6], inTab [], natTab [(6, 6)], inTab [], calTab [(307, .pure (mkP ks307 rs307 (F307 100))), (160, .ro (mkFun ks160 rs160 (F160 N)))], altTab [(1342439439, [⟨.normal, [6, 8], [.lp 6 0, .one (.int .i64)], [6], [.cells [(.int .i64), (.int .i64), (.cplx .f64), .str, (.int .i64), (.int .i64), .ref]]⟩, ⟨.ret, [6, 7], [.lp 6 0, .one (.int .i64)], [6], [.cells [(.int .i64), (.int .i64), (.cplx .f64), .str, (.int .i64), (.int .i64), .ref]]⟩])], loopTab [], natTab []⟩
theorem fine234 (N : Nat) : Fine (e234 N) N 234 Tryz.f234 ks234 rs234 (F234 N) :=
  ⟨Tryz.func234, by kernel_rfl, by kernel_rfl, by kernel_rfl, loops_of trivial, by kernel_rfl, by kernel_rfl, fun _ => by kernel_rfl⟩
theorem good234 (N : Nat) : Go.L.Good (e234 N) := good_of ⟨gd307, ⟨gd160 N, trivial⟩⟩
theorem gd234 (N : Nat) : CalOk Tryz.prog 234 (.ro (mkFun ks234 rs234 (F234 N))) := mkFun_ro (fine234 N) (good234 N) (by kernel_rfl)

/-! ### 167: term.arith -/
noncomputable def F167 (N : Nat) : Int × Int × Int × (Nat × Nat) × ByteArray × Int × Int × V × Int × Int × (Nat × Nat) × ByteArray × Int × Int × V × H → Option (Int × Int × (Nat × Nat) × ByteArray × Int × Int × V × Int × H)
  | (a0, a1_0, a1_1, a1_2, a1_3, a1_4, a1_5, a1_6, a2_0, a2_1, a2_2, a2_3, a2_4, a2_5, a2_6, h) =>
    (if (a1_0 == 3) = true then (
    some ((a2_0 == 3), h))
    else (
    some (false, h))).bind fun (b1, h2) =>
    (if b1 = true then (
    (F234 N (a0, a1_1, a2_1, h2)).bind fun (x3, x4, x5, x6, x7, x8, x9, x10, _) =>
    some (x3, x4, (x5.1, x5.2), x6, x7, x8, x9, x10, h2))
    else (
    (F233 N (a1_0, a1_1, (a1_2.1, a1_2.2), a1_3, a1_4, a1_5, a1_6, h2)).bind fun (x11, x12, x13, _) =>
    (F233 N (a2_0, a2_1, (a2_2.1, a2_2.2), a2_3, a2_4, a2_5, a2_6, h2)).bind fun (x14, x15, x16, _) =>
    (if (!x13) = true then (
    some (true, h2))
    else (
    some ((!x16), h2))).bind fun (b17, h18) =>
    (if b17 = true then (
    some (0, 0, (0, 0), (ByteArray.mk #[]), 0, 0, .nils, 31, h18))
    else (
    (if (a0 == 6) = true then (
    (F161 N ((IntKind.i64.wrap (x11 + x14)), (IntKind.i64.wrap (x12 + x15)), h18)).bind fun (x19, x20, x21, x22, x23, x24, x25, x26, _) =>
    some (x19, x20, (x21.1, x21.2), x22, x23, x24, x25, x26, h18))
    else (
    (if (a0 == 7) = true then (
    (F161 N ((IntKind.i64.wrap (x11 - x14)), (IntKind.i64.wrap (x12 - x15)), h18)).bind fun (x27, x28, x29, x30, x31, x32, x33, x34, _) =>
    some (x27, x28, (x29.1, x29.2), x30, x31, x32, x33, x34, h18))
    else (
    (F161 N ((IntKind.i64.wrap ((IntKind.i64.wrap (x11 * x14)) - (IntKind.i64.wrap (x12 * x15)))), (IntKind.i64.wrap ((IntKind.i64.wrap (x11 * x15)) + (IntKind.i64.wrap (x12 * x14)))), h18)).bind fun (x35, x36, x37, x38, x39, x40, x41, x42, _) =>
    some (x35, x36, (x37.1, x37.2), x38, x39, x40, x41, x42, h18)))))))))
abbrev ks167 : List SK := [.one (.int .i64), .agg [(.int .i64), (.int .i64), (.cplx .f64), .str, (.int .i64), (.int .i64), .ref], .agg [(.int .i64), (.int .i64), (.cplx .f64), .str, (.int .i64), (.int .i64), .ref]]
abbrev rs167 : List SK := [.agg [(.int .i64), (.int .i64), (.cplx .f64), .str, (.int .i64), (.int .i64), .ref], .one (.int .i64)]
noncomputable def e167 (N : Nat) : Env := ⟨Tryz.prog, 89, inTab [4, 5, 6], inTab [], natTab [(4, 4), (5, 5), (6, 6), (14, 4), (18, 5), (23, 4), (25, 5)], inTab [], calTab [(234, .ro (mkFun ks234 rs234 (F234 N))), (233, .ro (mkFun ks233 rs233 (F233 N))), (161, .ro (mkFun ks161 rs161 (F161 N)))], altTab [], loopTab [], natTab []⟩
theorem fine167 (N : Nat) : Fine (e167 N) N 167 Tryz.f167 ks167 rs167 (F167 N) :=
  ⟨Tryz.func167, by kernel_rfl, by kernel_rfl, by kernel_rfl, loops_of trivial, by kernel_rfl, by kernel_rfl, fun _ => by kernel_rfl⟩
theorem good167 (N : Nat) : Go.L.Good (e167 N) := good_of ⟨gd234 N, ⟨gd233 N, ⟨gd161 N, trivial⟩⟩⟩
theorem gd167 (N : Nat) : CalOk Tryz.prog 167 (.ro (mkFun ks167 rs167 (F167 N))) := mkFun_ro (fine167 N) (good167 N) (by kernel_rfl)

/-! ### 109: term.Binary -/
noncomputable def F109 (N : Nat) : Int × Int × Int × (Nat × Nat) × ByteArray × Int × Int × V × Int × Int × (Nat × Nat) × ByteArray × Int × Int × V × H → Option (Int × Int × (Nat × Nat) × ByteArray × Int × Int × V × Int × H)
  | (a0, a1_0, a1_1, a1_2, a1_3, a1_4, a1_5, a1_6, a2_0, a2_1, a2_2, a2_3, a2_4, a2_5, a2_6, h) =>
    ((if (a0 == 6) = true then (
    some (a0, (a0 == 6), a1_0, a1_1, (a1_2.1, a1_2.2), a1_3, a1_4, a1_5, a1_6, a2_0, a2_1, (a2_2.1, a2_2.2), a2_3, a2_4, a2_5, a2_6, 0, 0, (0, 0), (ByteArray.mk #[]), 0, 0, .nils, h))
    else (
    (if (a0 == 7) = true then (
    some (a0, (a0 == 7), a1_0, a1_1, (a1_2.1, a1_2.2), a1_3, a1_4, a1_5, a1_6, a2_0, a2_1, (a2_2.1, a2_2.2), a2_3, a2_4, a2_5, a2_6, 0, 0, (0, 0), (ByteArray.mk #[]), 0, 0, .nils, h))
    else (
    (if (a0 == 8) = true then (
    some (a0, (a0 == 8), a1_0, a1_1, (a1_2.1, a1_2.2), a1_3, a1_4, a1_5, a1_6, a2_0, a2_1, (a2_2.1, a2_2.2), a2_3, a2_4, a2_5, a2_6, 0, 0, (0, 0), (ByteArray.mk #[]), 0, 0, .nils, h))
    else (
    (if (a0 == 9) = true then (
    some (a0, (a0 == 9), a1_0, a1_1, (a1_2.1, a1_2.2), a1_3, a1_4, a1_5, a1_6, a2_0, a2_1, (a2_2.1, a2_2.2), a2_3, a2_4, a2_5, a2_6, 0, 0, (0, 0), (ByteArray.mk #[]), 0, 0, .nils, h))
    else (
    (if (a0 == 10) = true then (
    some (a0, (a0 == 10), a1_0, a1_1, (a1_2.1, a1_2.2), a1_3, a1_4, a1_5, a1_6, a2_0, a2_1, (a2_2.1, a2_2.2), a2_3, a2_4, a2_5, a2_6, 0, 0, (0, 0), (ByteArray.mk #[]), 0, 0, .nils, h))
    else (
    (if (a0 == 13) = true then (
    some (a0, (a0 == 13), a1_0, a1_1, (a1_2.1, a1_2.2), a1_3, a1_4, a1_5, a1_6, a2_0, a2_1, (a2_2.1, a2_2.2), a2_3, a2_4, a2_5, a2_6, 0, 0, (0, 0), (ByteArray.mk #[]), 0, 0, .nils, h))
    else (
    (if (a0 == 14) = true then (
    some (a0, (a0 == 14), a1_0, a1_1, (a1_2.1, a1_2.2), a1_3, a1_4, a1_5, a1_6, a2_0, a2_1, (a2_2.1, a2_2.2), a2_3, a2_4, a2_5, a2_6, 0, 0, (0, 0), (ByteArray.mk #[]), 0, 0, .nils, h))
    else (
    (if (a0 == 15) = true then (
    some (a0, (a0 == 15), a1_0, a1_1, (a1_2.1, a1_2.2), a1_3, a1_4, a1_5, a1_6, a2_0, a2_1, (a2_2.1, a2_2.2), a2_3, a2_4, a2_5, a2_6, 0, 0, (0, 0), (ByteArray.mk #[]), 0, 0, .nils, h))
    else (
    (if (a0 == 20) = true then (
    some (a0, (a0 == 20), a1_0, a1_1, (a1_2.1, a1_2.2), a1_3, a1_4, a1_5, a1_6, a2_0, a2_1, (a2_2.1, a2_2.2), a2_3, a2_4, a2_5, a2_6, 0, 0, (0, 0), (ByteArray.mk #[]), 0, 0, .nils, h))
    else (
    some (a0, (a0 == 22), a1_0, a1_1, (a1_2.1, a1_2.2), a1_3, a1_4, a1_5, a1_6, a2_0, a2_1, (a2_2.1, a2_2.2), a2_3, a2_4, a2_5, a2_6, 0, 0, (0, 0), (ByteArray.mk #[]), 0, 0, .nils, h))))))))))))))))))) : Option (Int × Bool × Int × Int × (Nat × Nat) × ByteArray × Int × Int × V × Int × Int × (Nat × Nat) × ByteArray × Int × Int × V × Int × Int × (Nat × Nat) × ByteArray × Int × Int × V × H)).bind fun (x1, x2, x3, x4, x5, x6, x7, x8, x9, x10, x11, x12, x13, x14, x15, x16, x17, x18, x19, x20, x21, x22, x23, h24) =>
    (if x2 = true then (
    (F163 N (x3, x4, (x5.1, x5.2), x6, x7, x8, x9, x10, x11, (x12.1, x12.2), x13, x14, x15, x16, h24)).bind fun (x25, h26) =>
    (if (x25 != 0) = true then (
    some (0, 0, (0, 0), (ByteArray.mk #[]), 0, 0, .nils, x25, h26))
    else (
    (if (x1 == 14) = true then (
    (F164 N N (x3, x4, (x5.1, x5.2), x6, x7, x8, x9, x10, x11, (x12.1, x12.2), x13, x14, x15, x16, h26)).bind fun (x27, _) =>
    (F162 N ((x27 == 0), h26)).bind fun (x28, x29, x30, x31, x32, x33, x34, _) =>
    some (x28, x29, (x30.1, x30.2), x31, x32, x33, x34, 0, h26))
    else (
    (if (x1 == 15) = true then (
    (F164 N N (x3, x4, (x5.1, x5.2), x6, x7, x8, x9, x10, x11, (x12.1, x12.2), x13, x14, x15, x16, h26)).bind fun (x35, _) =>
    (F162 N ((decide (x35 < 0)), h26)).bind fun (x36, x37, x38, x39, x40, x41, x42, _) =>
    some (x36, x37, (x38.1, x38.2), x39, x40, x41, x42, 0, h26))
    else (
    (if (x1 == 22) = true then (
    (if (x10 != 9) = true then (
    some (0, 0, (0, 0), (ByteArray.mk #[]), 0, 0, .nils, 32, h26))
    else (
    (some (h26 ++ [O.cells 0 [(.int .i64 x3), (.int .i64 x4), (.cplx .f64 x5.1 x5.2), (.str x6), (.int .i64 x7), (.int .i64 x8), x9]]) : Option H).bind fun h43 =>
    (scells h43 x16 7).bind fun cs46 =>
    (happ h43 (.sl (h26).length 0 0 1 7 (some 1)) 7 (snlen x16) cs46).bind fun (v44, h45) =>
    (F153 N (9, v44, h45)).bind fun (x47, x48, x49, x50, x51, x52, x53, x54, h55) =>
    some (x47, x48, (x49.1, x49.2), x50, x51, x52, x53, x54, h55))))
    else (
    (if (x1 == 20) = true then (
    (if (x3 != 8) = true then (
    some ((x3 != 9), h26))
    else (
    some (false, h26))).bind fun (b56, h57) =>
    (if b56 = true then (
    some (true, h57))
    else (
    some ((x10 != 3), h57))).bind fun (b58, h59) =>
    (if b58 = true then (
    some (0, 0, (0, 0), (ByteArray.mk #[]), 0, 0, .nils, 32, h59))
    else (
    (if (decide (x11 < 0)) = true then (
    some (true, h59))
    else (
    (slen x9).bind fun n62 =>
    some ((decide (x11 ≥ n62)), h59))).bind fun (b60, h61) =>
    (if b60 = true then (
    some (0, 0, (0, 0), (ByteArray.mk #[]), 0, 0, .nils, 31, h61))
    else (
    (sidx x9 x11 7).bind fun q63 =>
    (L.asInt .i64 (rd h61 q63 0)).bind fun x64 =>
    (L.asInt .i64 (rd h61 q63 1)).bind fun x65 =>
    (L.asCplx .f64 (rd h61 q63 2)).bind fun x66 =>
    (L.asStr (rd h61 q63 3)).bind fun x67 =>
    (L.asInt .i64 (rd h61 q63 4)).bind fun x68 =>
    (L.asInt .i64 (rd h61 q63 5)).bind fun x69 =>
    ((rd h61 q63 6)).bind fun x70 =>
    some (x64, x65, (x66.1, x66.2), x67, x68, x69, x70, 0, h61))))))
    else (
    (F165 N (x3, x4, (x5.1, x5.2), x6, x7, x8, x9, h26)).bind fun (x71, _) =>
    (if (!x71) = true then (
    some (true, h26))
    else (
    (F165 N (x10, x11, (x12.1, x12.2), x13, x14, x15, x16, h26)).bind fun (x74, _) =>
    some ((!x74), h26))).bind fun (b72, h73) =>
    (if b72 = true then (
    some (0, 0, (0, 0), (ByteArray.mk #[]), 0, 0, .nils, 32, h73))
    else (
    ((if (x1 == 9) = true then (
    some (x1, x1, (x1 == 9), x3, x4, (x5.1, x5.2), x6, x7, x8, x9, x10, x11, (x12.1, x12.2), x13, x14, x15, x16, x17, x18, (x19.1, x19.2), x20, x21, x22, x23, h73))
    else (
    some (x1, x1, (x1 == 10), x3, x4, (x5.1, x5.2), x6, x7, x8, x9, x10, x11, (x12.1, x12.2), x13, x14, x15, x16, x17, x18, (x19.1, x19.2), x20, x21, x22, x23, h73))) : Option (Int × Int × Bool × Int × Int × (Nat × Nat) × ByteArray × Int × Int × V × Int × Int × (Nat × Nat) × ByteArray × Int × Int × V × Int × Int × (Nat × Nat) × ByteArray × Int × Int × V × H)).bind fun (x75, x76, x77, x78, x79, x80, x81, x82, x83, x84, x85, x86, x87, x88, x89, x90, x91, x92, x93, x94, x95, x96, x97, x98, h99) =>
    (if x77 = true then (
    (if (x78 != 3) = true then (
    some (true, h99))
    else (
    some ((x85 != 3), h99))).bind fun (b100, h101) =>
    (if b100 = true then (
    some (0, 0, (0, 0), (ByteArray.mk #[]), 0, 0, .nils, 32, h101))
    else (
    (if (x86 == 0) = true then (
    some (0, 0, (0, 0), (ByteArray.mk #[]), 0, 0, .nils, 33, h101))
    else (
    (if (x75 == 9) = true then (
    (if x86 = 0 then none else (
    (F160 N ((IntKind.i64.wrap (Int.tdiv x79 x86)), h101)).bind fun (x102, x103, x104, x105, x106, x107, x108, _) =>
    some (x102, x103, (x104.1, x104.2), x105, x106, x107, x108, 0, h101))))
    else (
    (if x86 = 0 then none else (
    (F160 N ((Int.tmod x79 x86), h101)).bind fun (x109, x110, x111, x112, x113, x114, x115, _) =>
    some (x109, x110, (x111.1, x111.2), x112, x113, x114, x115, 0, h101))))))))))
    else (
    (if (x76 == 13) = true then (
    (if (x85 != 3) = true then (
    some (0, 0, (0, 0), (ByteArray.mk #[]), 0, 0, .nils, 32, h99))
    else (
    (F166 N (x78, x79, (x80.1, x80.2), x81, x82, x83, x84, x86, h99)).bind fun (x116, x117, x118, x119, x120, x121, x122, x123, _) =>
    some (x116, x117, (x118.1, x118.2), x119, x120, x121, x122, x123, h99))))
    else (
    (F167 N (x75, x78, x79, (x80.1, x80.2), x81, x82, x83, x84, x85, x86, (x87.1, x87.2), x88, x89, x90, x91, h99)).bind fun (x124, x125, x126, x127, x128, x129, x130, x131, _) =>
    some (x124, x125, (x126.1, x126.2), x127, x128, x129, x130, x131, h99))))))))))))))))))
    else (
    some (0, 0, (0, 0), (ByteArray.mk #[]), 0, 0, .nils, 1, h24)))
abbrev ks109 : List SK := [.one (.int .i64), .agg [(.int .i64), (.int .i64), (.cplx .f64), .str, (.int .i64), (.int .i64), .ref], .agg [(.int .i64), (.int .i64), (.cplx .f64), .str, (.int .i64), (.int .i64), .ref]]
abbrev rs109 : List SK := [.agg [(.int .i64), (.int .i64), (.cplx .f64), .str, (.int .i64), (.int .i64), .ref], .one (.int .i64)]
noncomputable def e109 (N : Nat) : Env := ⟨Tryz.prog, 150, inTab [4, 5, 6], inTab [], natTab [(4, 4), (5, 5), (6, 6), (46, 5), (52, 5), (60, 4), (64, 4), (69, 5), (74, 5), (78, 5), (80, 4), (86, 4), (88, 5), (105, 4), (109, 5), (114, 5), (120, 4), (122, 5), (126, 4), (128, 5), (134, 5), (139, 5)], inTab [], calTab [(163, .full (mkFun ks163 rs163 (F163 N))), (164, .ro (mkFun ks164 rs164 (F164 N N))), (162, .ro (mkFun ks162 rs162 (F162 N))), (153, .full (mkFun ks153 rs153 (F153 N))), (165, .ro (mkFun ks165 rs165 (F165 N))), (160, .ro (mkFun ks160 rs160 (F160 N))), (166, .ro (mkFun ks166 rs166 (F166 N))), (167, .ro (mkFun ks167 rs167 (F167 N)))], altTab [(1073741835, [⟨.normal, [0, 4, 5, 6, 11], [.one (.int .i64), .lp 4 0, .lp 5 0, .lp 6 0, .one .bool], [4, 5, 6], [.cells [(.int .i64), (.int .i64), (.cplx .f64), .str, (.int .i64), (.int .i64), .ref], .cells [(.int .i64), (.int .i64), (.cplx .f64), .str, (.int .i64), (.int .i64), .ref], .cells [(.int .i64), (.int .i64), (.cplx .f64), .str, (.int .i64), (.int .i64), .ref]]⟩]), (9395241062, [⟨.normal, [0, 4, 5, 6, 101, 102], [.one (.int .i64), .lp 4 0, .lp 5 0, .lp 6 0, .one (.int .i64), .one .bool], [4, 5, 6], [.cells [(.int .i64), (.int .i64), (.cplx .f64), .str, (.int .i64), (.int .i64), .ref], .cells [(.int .i64), (.int .i64), (.cplx .f64), .str, (.int .i64), (.int .i64), .ref], .cells [(.int .i64), (.int .i64), (.cplx .f64), .str, (.int .i64), (.int .i64), .ref]]⟩])], loopTab [], natTab []⟩
theorem fine109 (N : Nat) : Fine (e109 N) N 109 Tryz.f109 ks109 rs109 (F109 N) :=
  ⟨Tryz.func109, by kernel_rfl, by kernel_rfl, by kernel_rfl, loops_of trivial, by kernel_rfl, by kernel_rfl, fun _ => by kernel_rfl⟩
theorem good109 (N : Nat) : Go.L.Good (e109 N) := good_of ⟨gd163 N, ⟨gd164 N N, ⟨gd162 N, ⟨gd153 N, ⟨gd165 N, ⟨gd160 N, ⟨gd166 N, ⟨gd167 N, trivial⟩⟩⟩⟩⟩⟩⟩⟩
theorem gd109 (N : Nat) : CalOk Tryz.prog 109 (.full (mkFun ks109 rs109 (F109 N))) := mkFun_good (fine109 N) (good109 N)

/-! ### 48: step.doing).binary -/
noncomputable def F48 (N : Nat) : V × H → Option (Int × H)
  | (a0, h) =>
    (nck a0).bind fun _ =>
    (L.asInt .i64 (rd h (padd (padd a0 6) 0) 0)).bind fun x1 =>
    (F110 N (a0, h)).bind fun (x2, x3, x4, x5, x6, x7, x8, _) =>
    (F108 N (a0, h)).bind fun (x9, x10, x11, x12, x13, x14, x15, _) =>
    (F109 N (x1, x2, x3, (x4.1, x4.2), x5, x6, x7, x8, x9, x10, (x11.1, x11.2), x12, x13, x14, x15, h)).bind fun (x16, x17, x18, x19, x20, x21, x22, x23, h24) =>
    (F106 N (a0, x16, x17, (x18.1, x18.2), x19, x20, x21, x22, x23, h24)).bind fun (x25, h26) =>
    some (x25, h26)
abbrev ks48 : List SK := [.one .ref]
abbrev rs48 : List SK := [.one (.int .i64)]
noncomputable def e48 (N : Nat) : Env := ⟨Tryz.prog, 17, inTab [], inTab [], natTab [], inTab [], calTab [(110, .ro (mkFun ks110 rs110 (F110 N))), (108, .ro (mkFun ks108 rs108 (F108 N))), (109, .full (mkFun ks109 rs109 (F109 N))), (106, .full (mkFun ks106 rs106 (F106 N)))], altTab [], loopTab [], natTab []⟩
theorem fine48 (N : Nat) : Fine (e48 N) N 48 Tryz.f48 ks48 rs48 (F48 N) :=
  ⟨Tryz.func48, by kernel_rfl, by kernel_rfl, by kernel_rfl, loops_of trivial, by kernel_rfl, by kernel_rfl, fun _ => by kernel_rfl⟩
theorem good48 (N : Nat) : Go.L.Good (e48 N) := good_of ⟨gd110 N, ⟨gd108 N, ⟨gd109 N, ⟨gd106 N, trivial⟩⟩⟩⟩
theorem gd48 (N : Nat) : CalOk Tryz.prog 48 (.full (mkFun ks48 rs48 (F48 N))) := mkFun_good (fine48 N) (good48 N)

/-! ### 20: step.doing).does -/
abbrev rs20_22 : List SK := [.one (.int .i64)]
noncomputable def D20_22 (N : Nat) : List (Nat × (List V → H → Option (Tup rs20_22 H))) := [(76, (mkFun ks76 rs76 (F76 N)).F), (77, (mkFun ks77 rs77 (F77 N)).F), (78, (mkFun ks78 rs78 (F78 N)).F), (79, (mkFun ks79 rs79 (F79 N)).F), (80, (mkFun ks80 rs80 (F80 N)).F), (81, (mkFun ks81 rs81 (F81 N)).F), (82, (mkFun ks82 rs82 (F82 N)).F), (83, (mkFun ks83 rs83 (F83 N)).F), (84, (mkFun ks84 rs84 (F84 N)).F), (85, (mkFun ks85 rs85 (F85 N)).F), (86, (mkFun ks86 rs86 (F86 N)).F), (87, (mkFun ks87 rs87 (F87 N)).F), (88, (mkFun ks88 rs88 (F88 N)).F), (89, (mkFun ks89 rs89 (F89 N)).F), (90, (mkFun ks90 rs90 (F90 N)).F), (91, (mkFun ks91 rs91 (F91 N)).F), (92, (mkFun ks92 rs92 (F92 N)).F), (93, (mkFun ks93 rs93 (F93 N)).F), (94, (mkFun ks94 rs94 (F94 N)).F), (95, (mkFun ks95 rs95 (F95 N)).F), (96, (mkFun ks96 rs96 (F96 N)).F), (97, (mkFun ks97 rs97 (F97 N)).F), (98, (mkFun ks98 rs98 (F98 N)).F), (99, (mkFun ks99 rs99 (F99 N)).F), (100, (mkFun ks100 rs100 (F100 N)).F), (101, (mkFun ks101 rs101 (F101 N)).F), (102, (mkFun ks102 rs102 (F102 N)).F), (103, (mkFun ks103 rs103 (F103 N)).F), (104, (mkFun ks104 rs104 (F104 N)).F), (105, (mkFun ks105 rs105 (F105 N)).F)]
theorem dg20_22 (N : Nat) : CalOk Tryz.prog 16777238 (.dyn (dynF rs20_22 (D20_22 N))) := dyn_good ⟨mkFun_good (fine76 N) (good76 N), ⟨mkFun_good (fine77 N) (good77 N), ⟨mkFun_good (fine78 N) (good78 N), ⟨mkFun_good (fine79 N) (good79 N), ⟨mkFun_good (fine80 N) (good80 N), ⟨mkFun_good (fine81 N) (good81 N), ⟨mkFun_good (fine82 N) (good82 N), ⟨mkFun_good (fine83 N) (good83 N), ⟨mkFun_good (fine84 N) (good84 N), ⟨mkFun_good (fine85 N) (good85 N), ⟨mkFun_good (fine86 N) (good86 N), ⟨mkFun_good (fine87 N) (good87 N), ⟨mkFun_good (fine88 N) (good88 N), ⟨mkFun_good (fine89 N) (good89 N), ⟨mkFun_good (fine90 N) (good90 N), ⟨mkFun_good (fine91 N) (good91 N), ⟨mkFun_good (fine92 N) (good92 N), ⟨mkFun_good (fine93 N) (good93 N), ⟨mkFun_good (fine94 N) (good94 N), ⟨mkFun_good (fine95 N) (good95 N), ⟨mkFun_good (fine96 N) (good96 N), ⟨mkFun_good (fine97 N) (good97 N), ⟨mkFun_good (fine98 N) (good98 N), ⟨mkFun_good (fine99 N) (good99 N), ⟨mkFun_good (fine100 N) (good100 N), ⟨mkFun_good (fine101 N) (good101 N), ⟨mkFun_good (fine102 N) (good102 N), ⟨mkFun_good (fine103 N) (good103 N), ⟨mkFun_good (fine104 N) (good104 N), ⟨mkFun_good (fine105 N) (good105 N), trivial⟩⟩⟩⟩⟩⟩⟩⟩⟩⟩⟩⟩⟩⟩⟩⟩⟩⟩⟩⟩⟩⟩⟩⟩⟩⟩⟩⟩⟩⟩
noncomputable def L20_0 (N : Nat) : Nat → V × V × Int × Int × H → Option ((V × H) ⊕ (Int × H))
  | 0, _ => none
  | n + 1, (x15, x16, x17, x18, h19) =>
    (if (decide (x18 < x17)) = true then (
    (sidx x16 x18 2).bind fun q20 =>
    (L.asInt .i64 (rd h19 q20 0)).bind fun x21 =>
    ((rd h19 q20 1)).bind fun x22 =>
    (nck x15).bind fun _ =>
    (L.asInt .i64 (rd h19 (padd (padd x15 6) 0) 0)).bind fun x23 =>
    (if (x21 == x23) = true then (
    (dynC rs20_22 (D20_22 N) x22 [x15] h19).bind fun (x24, h25) =>
    some (.inr (x24, h25)))
    else (
    L20_0 N n (x15, x16, x17, (IntKind.i64.wrap (x18 + 1)), h19))))
    else (
    some (.inl (x15, h19))))
noncomputable def F20 (N : Nat) : V × H → Option (Int × H)
  | (a0, h) =>
    (F46 N h).bind fun (x1, h2) =>
    (slen x1).bind fun n3 =>
    (L20_0 N N (a0, x1, n3, 0, h2)).bind fun o26 => match o26 with
    | .inl (x27, h28) => (
    (nck x27).bind fun _ =>
    ((rd h28 (padd x27 18) 0)).bind fun x29 =>
    (slen x29).bind fun n30 =>
    (if (n30 == 1) = true then (
    (F47 N (x27, h28)).bind fun (x31, h32) =>
    some (x31, h32))
    else (
    (F48 N (x27, h28)).bind fun (x33, h34) =>
    some (x33, h34))))
    | .inr (x35, h36) => (
    some (x35, h36))
abbrev ks20 : List SK := [.one .ref]
abbrev rs20 : List SK := [.one (.int .i64)]
noncomputable def e20 (N : Nat) : Env := ⟨Tryz.prog, 34, inTab [4], inTab [], natTab [(4, 4), (11, 4), (19, 4)], inTab [], calTab [(46, .full (mkFun ks46 rs46 (F46 N))), (16777238, .dyn (dynF rs20_22 (D20_22 N))), (47, .full (mkFun ks47 rs47 (F47 N))), (48, .full (mkFun ks48 rs48 (F48 N)))], altTab [], loopTab [(2, ⟨⟨.normal, [0, 5, 6, 7], [.one .ref, .one .ref, .one (.int .i64), .one (.int .i64)], [], []⟩, [⟨(.exit 0), [0], [.one .ref], [], []⟩, ⟨.ret, [2], [.one (.int .i64)], [], []⟩], L20_0 N⟩)], natTab []⟩
theorem l20_0 (N : Nat) : ∀ A, (e20 N).lp (lid (loopAt Tryz.f20 0)) = some A → LoopOk (e20 N) N (loopAt Tryz.f20 0) A :=
  loopOk_of (A := ⟨⟨.normal, [0, 5, 6, 7], [.one .ref, .one .ref, .one (.int .i64), .one (.int .i64)], [], []⟩, [⟨(.exit 0), [0], [.one .ref], [], []⟩, ⟨.ret, [2], [.one (.int .i64)], [], []⟩], L20_0 N⟩) (by kernel_rfl) (fun _ => rfl) (fun _ _ => by kernel_rfl)
theorem fine20 (N : Nat) : Fine (e20 N) N 20 Tryz.f20 ks20 rs20 (F20 N) :=
  ⟨Tryz.func20, by kernel_rfl, by kernel_rfl, by kernel_rfl, loops_of ⟨l20_0 N, trivial⟩, by kernel_rfl, by kernel_rfl, fun _ => by kernel_rfl⟩
theorem good20 (N : Nat) : Go.L.Good (e20 N) := good_of ⟨gd46 N, ⟨dg20_22 N, ⟨gd47 N, ⟨gd48 N, trivial⟩⟩⟩⟩
theorem gd20 (N : Nat) : CalOk Tryz.prog 20 (.full (mkFun ks20 rs20 (F20 N))) := mkFun_good (fine20 N) (good20 N)

/-! ### 22: code.Cost -/
noncomputable def F22 (N : Nat) : Int × Int × Int × Int × Int × (Nat × Nat) × ByteArray × Int × Int × V × V × H → Option (Int × Int × H)
  | (a0_0, a0_1, a0_2, a0_3, a0_4, a0_5, a0_6, a0_7, a0_8, a0_9, a0_10, h) =>
    (F51 100 (a0_0, [])).bind fun (x1, _) =>
    (if (!x1) = true then (
    some (0, 61, h))
    else (
    (if (a0_0 == 34) = true then (
    some (8, 0, h))
    else (
    (if (a0_0 == 32) = true then (
    some (4, 0, h))
    else (
    ((if (a0_0 == 18) = true then (
    some ((a0_0 == 18), h))
    else (
    (if (a0_0 == 19) = true then (
    some ((a0_0 == 19), h))
    else (
    (if (a0_0 == 27) = true then (
    some ((a0_0 == 27), h))
    else (
    (if (a0_0 == 28) = true then (
    some ((a0_0 == 28), h))
    else (
    (if (a0_0 == 33) = true then (
    some ((a0_0 == 33), h))
    else (
    (if (a0_0 == 35) = true then (
    some ((a0_0 == 35), h))
    else (
    (if (a0_0 == 36) = true then (
    some ((a0_0 == 36), h))
    else (
    (if (a0_0 == 37) = true then (
    some ((a0_0 == 37), h))
    else (
    (if (a0_0 == 38) = true then (
    some ((a0_0 == 38), h))
    else (
    (if (a0_0 == 39) = true then (
    some ((a0_0 == 39), h))
    else (
    (if (a0_0 == 40) = true then (
    some ((a0_0 == 40), h))
    else (
    (if (a0_0 == 42) = true then (
    some ((a0_0 == 42), h))
    else (
    (if (a0_0 == 43) = true then (
    some ((a0_0 == 43), h))
    else (
    some ((a0_0 == 44), h))))))))))))))))))))))))))) : Option (Bool × H)).bind fun (x2, h3) =>
    (if x2 = true then (
    some (2, 0, h3))
    else (
    some (1, 0, h3)))))))))
abbrev ks22 : List SK := [.agg [(.int .i64), (.int .i64), (.int .i64), (.int .i64), (.int .i64), (.cplx .f64), .str, (.int .i64), (.int .i64), .ref, .ref]]
abbrev rs22 : List SK := [.one (.int .i64), .one (.int .i64)]
noncomputable def e22 (N : Nat) : Env := ⟨Tryz.prog, 29, inTab [1], inTab [], natTab [(1, 1), (4, 1), (8, 1)], inTab [], calTab [(51, .pure (mkP ks51 rs51 (F51 100)))], altTab [(2415919118, [⟨.normal, [14], [.one .bool], [], []⟩])], loopTab [], natTab []⟩
theorem fine22 (N : Nat) : Fine (e22 N) N 22 Tryz.f22 ks22 rs22 (F22 N) :=
  ⟨Tryz.func22, by kernel_rfl, by kernel_rfl, by kernel_rfl, loops_of trivial, by kernel_rfl, by kernel_rfl, fun _ => by kernel_rfl⟩
theorem good22 (N : Nat) : Go.L.Good (e22 N) := good_of ⟨gd51, trivial⟩
theorem gd22 (N : Nat) : CalOk Tryz.prog 22 (.ro (mkFun ks22 rs22 (F22 N))) := mkFun_ro (fine22 N) (good22 N) (by kernel_rfl)

/-! ### 5: step.Do -/
noncomputable def F5 (N : Nat) : ByteArray × V × V × H → Option (Int × Int × Int × (Nat × Nat) × ByteArray × Int × Int × V × Int × Int × (Nat × Nat) × ByteArray × Int × Int × V × V × Int × Int × Int × V × Int × Int × H)
  | (a0_0, a0_1, a1, h) =>
    (F18 N (a0_0, a0_1, a1, h)).bind fun (x1, x2, h3) =>
    (if (x2 != 0) = true then (
    some (0, 0, 0, (0, 0), (ByteArray.mk #[]), 0, 0, .nils, 0, 0, (0, 0), (ByteArray.mk #[]), 0, 0, .nils, .nils, 0, 0, 0, .nils, 0, x2, h3))
    else (
    (F19 N (x1, h3)).bind fun (x4, h5) =>
    (if (x4 != 0) = true then (
    some (0, 0, 0, (0, 0), (ByteArray.mk #[]), 0, 0, .nils, 0, 0, (0, 0), (ByteArray.mk #[]), 0, 0, .nils, .nils, 0, 0, 0, .nils, 0, x4, h5))
    else (
    (F20 N (x1, h5)).bind fun (x6, h7) =>
    (if (x6 != 0) = true then (
    some (0, 0, 0, (0, 0), (ByteArray.mk #[]), 0, 0, .nils, 0, 0, (0, 0), (ByteArray.mk #[]), 0, 0, .nils, .nils, 0, 0, 0, .nils, 0, x6, h7))
    else (
    (nck x1).bind fun _ =>
    (L.asInt .i64 (rd h7 (padd x1 39) 0)).bind fun x8 =>
    (if (decide (x8 ≥ 0)) = true then (
    some (true, h7))
    else (
    (nck x1).bind fun _ =>
    (L.asInt .i64 (rd h7 (padd (padd x1 6) 0) 0)).bind fun x11 =>
    some ((x11 == 25), h7))).bind fun (b9, h10) =>
    (if b9 = true then (
    some (true, h10))
    else (
    (nck x1).bind fun _ =>
    (L.asInt .i64 (rd h10 (padd (padd x1 6) 0) 0)).bind fun x14 =>
    some ((x14 == 26), h10))).bind fun (b12, h13) =>
    (if b12 = true then (
    some (true, h13))
    else (
    (nck x1).bind fun _ =>
    (L.asInt .i64 (rd h13 (padd (padd x1 6) 0) 0)).bind fun x17 =>
    some ((x17 == 27), h13))).bind fun (b15, h16) =>
    ((if b15 = true then (
    (nck x1).bind fun _ =>
    (L.asInt .i64 (rd h16 (padd x1 39) 0)).bind fun x18 =>
    (if (decide (x18 < 0)) = true then (
    some (true, h16))
    else (
    (nck x1).bind fun _ =>
    (L.asInt .i64 (rd h16 (padd x1 39) 0)).bind fun x21 =>
    (nck x1).bind fun _ =>
    ((rd h16 (padd (padd x1 2) 3) 0)).bind fun x22 =>
    (slen x22).bind fun n23 =>
    some ((decide (x21 ≥ n23)), h16))).bind fun (b19, h20) =>
    (if b19 = true then (
    some (.inr (0, 3, 0, 0, 0, (0, 0), (ByteArray.mk #[]), 0, 0, .nils, 0, 0, (0, 0), (ByteArray.mk #[]), 0, 0, .nils, .nils, 0, 0, 0, .nils, h20)))
    else (
    (nck x1).bind fun _ =>
    ((rd h20 (padd x1 17) 0)).bind fun x24 =>
    (nck x1).bind fun _ =>
    (L.asInt .i64 (rd h20 (padd x1 39) 0)).bind fun x25 =>
    (F21 N (x24, x25, h20)).bind fun (x26, h27) =>
    some (.inl (a1, x1, 0, 0, 0, (0, 0), (ByteArray.mk #[]), 0, 0, .nils, 0, 0, (0, 0), (ByteArray.mk #[]), 0, 0, .nils, .nils, 0, 0, 0, .nils, h27)))))
    else (
    some (.inl (a1, x1, 0, 0, 0, (0, 0), (ByteArray.mk #[]), 0, 0, .nils, 0, 0, (0, 0), (ByteArray.mk #[]), 0, 0, .nils, .nils, 0, 0, 0, .nils, h16)))) : Option ((V × V × Int × Int × Int × (Nat × Nat) × ByteArray × Int × Int × V × Int × Int × (Nat × Nat) × ByteArray × Int × Int × V × V × Int × Int × Int × V × H) ⊕ (Int × Int × Int × Int × Int × (Nat × Nat) × ByteArray × Int × Int × V × Int × Int × (Nat × Nat) × ByteArray × Int × Int × V × V × Int × Int × Int × V × H))).bind fun o28 => match o28 with
    | .inl (x29, x30, x31, x32, x33, x34, x35, x36, x37, x38, x39, x40, x41, x42, x43, x44, x45, x46, x47, x48, x49, x50, h51) => (
    (nck x30).bind fun _ =>
    ((rd h51 (padd x30 17) 0)).bind fun x52 =>
    (nck x52).bind fun _ =>
    (L.asBool (rd h51 x52 0)).bind fun x53 =>
    ((rd h51 x52 1)).bind fun x54 =>
    ((rd h51 x52 2)).bind fun x55 =>
    (nck x29).bind fun _ =>
    (wr h51 x29 [(.bool x53), x54, x55]).bind fun h56 =>
    (nck x30).bind fun _ =>
    (L.asInt .i64 (rd h56 (padd x30 6) 0)).bind fun x57 =>
    (L.asInt .i64 (rd h56 (padd x30 6) 1)).bind fun x58 =>
    (L.asInt .i64 (rd h56 (padd x30 6) 2)).bind fun x59 =>
    (L.asInt .i64 (rd h56 (padd x30 6) 3)).bind fun x60 =>
    (L.asInt .i64 (rd h56 (padd x30 6) 4)).bind fun x61 =>
    (L.asCplx .f64 (rd h56 (padd x30 6) 5)).bind fun x62 =>
    (L.asStr (rd h56 (padd x30 6) 6)).bind fun x63 =>
    (L.asInt .i64 (rd h56 (padd x30 6) 7)).bind fun x64 =>
    (L.asInt .i64 (rd h56 (padd x30 6) 8)).bind fun x65 =>
    ((rd h56 (padd x30 6) 9)).bind fun x66 =>
    ((rd h56 (padd x30 6) 10)).bind fun x67 =>
    (F22 N (x57, x58, x59, x60, x61, (x62.1, x62.2), x63, x64, x65, x66, x67, h56)).bind fun (x68, x69, _) =>
    (nck x30).bind fun _ =>
    (L.asInt .i64 (rd h56 (padd x30 19) 0)).bind fun x70 =>
    (L.asInt .i64 (rd h56 (padd x30 19) 1)).bind fun x71 =>
    (L.asInt .i64 (rd h56 (padd x30 19) 2)).bind fun x72 =>
    (L.asCplx .f64 (rd h56 (padd x30 19) 3)).bind fun x73 =>
    (L.asStr (rd h56 (padd x30 19) 4)).bind fun x74 =>
    (L.asInt .i64 (rd h56 (padd x30 19) 5)).bind fun x75 =>
    (L.asInt .i64 (rd h56 (padd x30 19) 6)).bind fun x76 =>
    ((rd h56 (padd x30 19) 7)).bind fun x77 =>
    (L.asInt .i64 (rd h56 (padd x30 19) 8)).bind fun x78 =>
    (L.asInt .i64 (rd h56 (padd x30 19) 9)).bind fun x79 =>
    (L.asCplx .f64 (rd h56 (padd x30 19) 10)).bind fun x80 =>
    (L.asStr (rd h56 (padd x30 19) 11)).bind fun x81 =>
    (L.asInt .i64 (rd h56 (padd x30 19) 12)).bind fun x82 =>
    (L.asInt .i64 (rd h56 (padd x30 19) 13)).bind fun x83 =>
    ((rd h56 (padd x30 19) 14)).bind fun x84 =>
    ((rd h56 (padd x30 19) 15)).bind fun x85 =>
    (L.asInt .i64 (rd h56 (padd x30 19) 16)).bind fun x86 =>
    (L.asInt .i64 (rd h56 (padd x30 19) 17)).bind fun x87 =>
    (L.asInt .i64 (rd h56 (padd x30 19) 18)).bind fun x88 =>
    ((rd h56 (padd x30 19) 19)).bind fun x89 =>
    some (x70, x71, x72, (x73.1, x73.2), x74, x75, x76, x77, x78, x79, (x80.1, x80.2), x81, x82, x83, x84, x85, x86, x87, x88, x89, x68, 0, h56))
    | .inr (x90, x91, x92, x93, x94, x95, x96, x97, x98, x99, x100, x101, x102, x103, x104, x105, x106, x107, x108, x109, x110, x111, h112) => (
    some (x92, x93, x94, (x95.1, x95.2), x96, x97, x98, x99, x100, x101, (x102.1, x102.2), x103, x104, x105, x106, x107, x108, x109, x110, x111, x90, x91, h112))))))))
abbrev ks5 : List SK := [.agg [.str, .ref], .one .ref]
abbrev rs5 : List SK := [.agg [(.int .i64), (.int .i64), (.int .i64), (.cplx .f64), .str, (.int .i64), (.int .i64), .ref, (.int .i64), (.int .i64), (.cplx .f64), .str, (.int .i64), (.int .i64), .ref, .ref, (.int .i64), (.int .i64), (.int .i64), .ref], .one (.int .i64), .one (.int .i64)]
noncomputable def e5 (N : Nat) : Env := ⟨Tryz.prog, 113, inTab [2, 4], inTab [], natTab [(2, 2), (4, 4)], inTab [], calTab [(18, .full (mkFun ks18 rs18 (F18 N))), (19, .full (mkFun ks19 rs19 (F19 N))), (20, .full (mkFun ks20 rs20 (F20 N))), (21, .full (mkFun ks21 rs21 (F21 N))), (22, .ro (mkFun ks22 rs22 (F22 N)))], altTab [(720959, [⟨.normal, [1, 4, 7], [.one .ref, .lp 4 0, .one .ref], [4], [.cells [(.int .i64), (.int .i64), (.int .i64), (.cplx .f64), .str, (.int .i64), (.int .i64), .ref, (.int .i64), (.int .i64), (.cplx .f64), .str, (.int .i64), (.int .i64), .ref, .ref, (.int .i64), (.int .i64), (.int .i64), .ref]]⟩, ⟨.ret, [4, 5, 6], [.lp 4 0, .one (.int .i64), .one (.int .i64)], [4], [.cells [(.int .i64), (.int .i64), (.int .i64), (.cplx .f64), .str, (.int .i64), (.int .i64), .ref, (.int .i64), (.int .i64), (.cplx .f64), .str, (.int .i64), (.int .i64), .ref, .ref, (.int .i64), (.int .i64), (.int .i64), .ref]]⟩])], loopTab [], natTab []⟩
theorem fine5 (N : Nat) : Fine (e5 N) N 5 Tryz.f5 ks5 rs5 (F5 N) :=
  ⟨Tryz.func5, by kernel_rfl, by kernel_rfl, by kernel_rfl, loops_of trivial, by kernel_rfl, by kernel_rfl, fun _ => by kernel_rfl⟩
theorem good5 (N : Nat) : Go.L.Good (e5 N) := good_of ⟨gd18 N, ⟨gd19 N, ⟨gd20 N, ⟨gd21 N, ⟨gd22 N, trivial⟩⟩⟩⟩⟩
theorem gd5 (N : Nat) : CalOk Tryz.prog 5 (.full (mkFun ks5 rs5 (F5 N))) := mkFun_good (fine5 N) (good5 N)

/-! ### 27: step.doing).told -/
noncomputable def F27 (N : Nat) : V × V × Bool × Int × Int × (Nat × Nat) × ByteArray × Int × Int × V × Int × V × H → Option (Int × H)
  | (a0, a1, a2_0, a2_1, a2_2, a2_3, a2_4, a2_5, a2_6, a2_7, a2_8, a2_9, h) =>
    (if (decide (a2_8 < (-1))) = true then (
    some (true, h))
    else (
    (slen a1).bind fun n3 =>
    some ((decide (a2_8 ≥ n3)), h))).bind fun (b1, h2) =>
    (if b1 = true then (
    some (3, h2))
    else (
    (F53 N (a0, a2_9, h2)).bind fun (x4, h5) =>
    (if (x4 != 0) = true then (
    some (x4, h5))
    else (
    (nck a0).bind fun _ =>
    (L.asInt .i64 (rd h5 (padd (padd a0 6) 1) 0)).bind fun x6 =>
    ((if (decide (a2_8 ≥ 0)) = true then (
    (sidx a1 a2_8 12).bind fun q7 =>
    (L.asInt .i64 (rd h5 (padd q7 11) 0)).bind fun x8 =>
    some (a0, x8, h5))
    else (
    some (a0, x6, h5))) : Option (V × Int × H)).bind fun (x9, x10, h11) =>
    (if (decide (x10 < 0)) = true then (
    some (true, h11))
    else (
    (nck x9).bind fun _ =>
    ((rd h11 (padd (padd x9 2) 3) 0)).bind fun x14 =>
    (slen x14).bind fun n15 =>
    some ((decide (x10 ≥ n15)), h11))).bind fun (b12, h13) =>
    (if b12 = true then (
    some (3, h13))
    else (
    (nck x9).bind fun _ =>
    ((rd h13 (padd x9 17) 0)).bind fun x16 =>
    (F21 N (x16, x10, h13)).bind fun (x17, h18) =>
    some (x17, h18)))))))
abbrev ks27 : List SK := [.one .ref, .one .ref, .agg [.bool, (.int .i64), (.int .i64), (.cplx .f64), .str, (.int .i64), (.int .i64), .ref, (.int .i64), .ref]]
abbrev rs27 : List SK := [.one (.int .i64)]
noncomputable def e27 (N : Nat) : Env := ⟨Tryz.prog, 58, inTab [5], inTab [], natTab [(5, 5), (9, 5), (13, 5), (20, 5), (31, 5), (35, 5)], inTab [], calTab [(53, .full (mkFun ks53 rs53 (F53 N))), (21, .full (mkFun ks21 rs21 (F21 N)))], altTab [(524321, [⟨.normal, [0, 8], [.one .ref, .one (.int .i64)], [], []⟩])], loopTab [], natTab []⟩
theorem fine27 (N : Nat) : Fine (e27 N) N 27 Tryz.f27 ks27 rs27 (F27 N) :=
  ⟨Tryz.func27, by kernel_rfl, by kernel_rfl, by kernel_rfl, loops_of trivial, by kernel_rfl, by kernel_rfl, fun _ => by kernel_rfl⟩
theorem good27 (N : Nat) : Go.L.Good (e27 N) := good_of ⟨gd53 N, ⟨gd21 N, trivial⟩⟩
theorem gd27 (N : Nat) : CalOk Tryz.prog 27 (.full (mkFun ks27 rs27 (F27 N))) := mkFun_good (fine27 N) (good27 N)

/-! ### 7: step.Reply -/
noncomputable def F7 (N : Nat) : ByteArray × V × V × Int × Int × Int × (Nat × Nat) × ByteArray × Int × Int × V × Int × Int × (Nat × Nat) × ByteArray × Int × Int × V × V × Int × Int × Int × V × Bool × Int × Int × (Nat × Nat) × ByteArray × Int × Int × V × Int × V × H → Option (Int × H)
  | (a0_0, a0_1, a1, a2_0, a2_1, a2_2, a2_3, a2_4, a2_5, a2_6, a2_7, a2_8, a2_9, a2_10, a2_11, a2_12, a2_13, a2_14, a2_15, a2_16, a2_17, a2_18, a2_19, a3_0, a3_1, a3_2, a3_3, a3_4, a3_5, a3_6, a3_7, a3_8, a3_9, h) =>
    (F24 N (a1, h)).bind fun (x1, h2) =>
    (if (!x1) = true then (
    some (true, h2))
    else (
    some ((decide (a2_0 < 2)), h2))).bind fun (b3, h4) =>
    (if b3 = true then (
    some (true, h4))
    else (
    some ((decide (a2_0 > 18)), h4))).bind fun (b5, h6) =>
    (if b5 = true then (
    some (1, h6))
    else (
    (F25 N (a1, h6)).bind fun (x7, _) =>
    (if (x7 == 0) = true then (
    some (92, h6))
    else (
    ((if (a2_0 == 13) = true then (
    some (a1, a2_0, (a2_0 == 13), a0_0, a0_1, a2_0, a2_1, a2_2, (a2_3.1, a2_3.2), a2_4, a2_5, a2_6, a2_7, a2_8, a2_9, (a2_10.1, a2_10.2), a2_11, a2_12, a2_13, a2_14, a2_15, a2_16, a2_17, a2_18, a2_19, a3_0, a3_1, a3_2, (a3_3.1, a3_3.2), a3_4, a3_5, a3_6, a3_7, a3_8, a3_9, h6))
    else (
    (if (a2_0 == 16) = true then (
    some (a1, a2_0, (a2_0 == 16), a0_0, a0_1, a2_0, a2_1, a2_2, (a2_3.1, a2_3.2), a2_4, a2_5, a2_6, a2_7, a2_8, a2_9, (a2_10.1, a2_10.2), a2_11, a2_12, a2_13, a2_14, a2_15, a2_16, a2_17, a2_18, a2_19, a3_0, a3_1, a3_2, (a3_3.1, a3_3.2), a3_4, a3_5, a3_6, a3_7, a3_8, a3_9, h6))
    else (
    (if (a2_0 == 17) = true then (
    some (a1, a2_0, (a2_0 == 17), a0_0, a0_1, a2_0, a2_1, a2_2, (a2_3.1, a2_3.2), a2_4, a2_5, a2_6, a2_7, a2_8, a2_9, (a2_10.1, a2_10.2), a2_11, a2_12, a2_13, a2_14, a2_15, a2_16, a2_17, a2_18, a2_19, a3_0, a3_1, a3_2, (a3_3.1, a3_3.2), a3_4, a3_5, a3_6, a3_7, a3_8, a3_9, h6))
    else (
    some (a1, a2_0, (a2_0 == 18), a0_0, a0_1, a2_0, a2_1, a2_2, (a2_3.1, a2_3.2), a2_4, a2_5, a2_6, a2_7, a2_8, a2_9, (a2_10.1, a2_10.2), a2_11, a2_12, a2_13, a2_14, a2_15, a2_16, a2_17, a2_18, a2_19, a3_0, a3_1, a3_2, (a3_3.1, a3_3.2), a3_4, a3_5, a3_6, a3_7, a3_8, a3_9, h6))))))) : Option (V × Int × Bool × ByteArray × V × Int × Int × Int × (Nat × Nat) × ByteArray × Int × Int × V × Int × Int × (Nat × Nat) × ByteArray × Int × Int × V × V × Int × Int × Int × V × Bool × Int × Int × (Nat × Nat) × ByteArray × Int × Int × V × Int × V × H)).bind fun (x8, x9, x10, x11, x12, x13, x14, x15, x16, x17, x18, x19, x20, x21, x22, x23, x24, x25, x26, x27, x28, x29, x30, x31, x32, x33, x34, x35, x36, x37, x38, x39, x40, x41, x42, h43) =>
    (if x10 = true then (
    some (0, h43))
    else (
    (if (x9 == 4) = true then (
    (F26 N (x8, x21, x22, (x23.1, x23.2), x24, x25, x26, x27, h43)).bind fun (x44, h45) =>
    some (x44, h45))
    else (
    (if (x9 == 5) = true then (
    (if (!x33) = true then (
    some (0, h43))
    else (
    (F18 N (x11, x12, x8, h43)).bind fun (x46, x47, h48) =>
    (if (x47 != 0) = true then (
    some (x47, h48))
    else (
    (F27 N (x46, x28, x33, x34, x35, (x36.1, x36.2), x37, x38, x39, x40, x41, x42, h48)).bind fun (x49, h50) =>
    (if (x49 != 0) = true then (
    some (x49, h50))
    else (
    (nck x46).bind fun _ =>
    ((rd h50 (padd x46 17) 0)).bind fun x51 =>
    (nck x51).bind fun _ =>
    (L.asBool (rd h50 x51 0)).bind fun x52 =>
    ((rd h50 x51 1)).bind fun x53 =>
    ((rd h50 x51 2)).bind fun x54 =>
    (nck x8).bind fun _ =>
    (wr h50 x8 [(.bool x52), x53, x54]).bind fun h55 =>
    some (0, h55))))))))
    else (
    (F26 N (x8, x34, x35, (x36.1, x36.2), x37, x38, x39, x40, h43)).bind fun (x56, h57) =>
    some (x56, h57)))))))))))
abbrev ks7 : List SK := [.agg [.str, .ref], .one .ref, .agg [(.int .i64), (.int .i64), (.int .i64), (.cplx .f64), .str, (.int .i64), (.int .i64), .ref, (.int .i64), (.int .i64), (.cplx .f64), .str, (.int .i64), (.int .i64), .ref, .ref, (.int .i64), (.int .i64), (.int .i64), .ref], .agg [.bool, (.int .i64), (.int .i64), (.cplx .f64), .str, (.int .i64), (.int .i64), .ref, (.int .i64), .ref]]
abbrev rs7 : List SK := [.one (.int .i64)]
noncomputable def e7 (N : Nat) : Env := ⟨Tryz.prog, 75, inTab [4, 6, 7], inTab [], natTab [(4, 4), (6, 6), (7, 7), (16, 6), (21, 6), (28, 6), (38, 6), (43, 7), (56, 6), (72, 7)], inTab [], calTab [(24, .full (mkFun ks24 rs24 (F24 N))), (25, .ro (mkFun ks25 rs25 (F25 N))), (26, .full (mkFun ks26 rs26 (F26 N))), (18, .full (mkFun ks18 rs18 (F18 N))), (27, .full (mkFun ks27 rs27 (F27 N)))], altTab [(1879048222, [⟨.normal, [1, 4, 6, 7, 29, 30], [.one .ref, .lp 4 0, .lp 6 0, .lp 7 0, .one (.int .i64), .one .bool], [4, 6, 7], [.cells [.str, .ref], .cells [(.int .i64), (.int .i64), (.int .i64), (.cplx .f64), .str, (.int .i64), (.int .i64), .ref, (.int .i64), (.int .i64), (.cplx .f64), .str, (.int .i64), (.int .i64), .ref, .ref, (.int .i64), (.int .i64), (.int .i64), .ref], .cells [.bool, (.int .i64), (.int .i64), (.cplx .f64), .str, (.int .i64), (.int .i64), .ref, (.int .i64), .ref]]⟩])], loopTab [], natTab []⟩
theorem fine7 (N : Nat) : Fine (e7 N) N 7 Tryz.f7 ks7 rs7 (F7 N) :=
  ⟨Tryz.func7, by kernel_rfl, by kernel_rfl, by kernel_rfl, loops_of trivial, by kernel_rfl, by kernel_rfl, fun _ => by kernel_rfl⟩
theorem good7 (N : Nat) : Go.L.Good (e7 N) := good_of ⟨gd24 N, ⟨gd25 N, ⟨gd26 N, ⟨gd18 N, ⟨gd27 N, trivial⟩⟩⟩⟩⟩
theorem gd7 (N : Nat) : CalOk Tryz.prog 7 (.full (mkFun ks7 rs7 (F7 N))) := mkFun_good (fine7 N) (good7 N)

/-! ### 9: step.Reason -/
noncomputable def F9 (N : Nat) : Int × H → Option (Int × Int × (Nat × Nat) × ByteArray × Int × Int × V × H)
  | (a0, h) =>
    (if (a0 == 0) = true then (
    (F29 N ((ByteArray.mk #[110, 111, 114, 109, 97, 108]), h)).bind fun (x1, x2, x3, x4, x5, x6, x7, _) =>
    some (x1, x2, (x3.1, x3.2), x4, x5, x6, x7, h))
    else (
    (if (a0 == 32) = true then (
    (F29 N ((ByteArray.mk #[98, 97, 100, 107, 105, 110, 100]), h)).bind fun (x8, x9, x10, x11, x12, x13, x14, _) =>
    some (x8, x9, (x10.1, x10.2), x11, x12, x13, x14, h))
    else (
    (if (a0 == 31) = true then (
    (F29 N ((ByteArray.mk #[98, 97, 100, 114, 97, 110, 103, 101]), h)).bind fun (x15, x16, x17, x18, x19, x20, x21, _) =>
    some (x15, x16, (x17.1, x17.2), x18, x19, x20, x21, h))
    else (
    (if (a0 == 33) = true then (
    (F29 N ((ByteArray.mk #[98, 97, 100, 122, 101, 114, 111]), h)).bind fun (x22, x23, x24, x25, x26, x27, x28, _) =>
    some (x22, x23, (x24.1, x24.2), x25, x26, x27, x28, h))
    else (
    (if (a0 == 34) = true then (
    (F29 N ((ByteArray.mk #[116, 111, 111, 98, 105, 103]), h)).bind fun (x29, x30, x31, x32, x33, x34, x35, _) =>
    some (x29, x30, (x31.1, x31.2), x32, x33, x34, x35, h))
    else (
    (if (a0 == 90) = true then (
    (F29 N ((ByteArray.mk #[116, 111, 111, 100, 101, 101, 112]), h)).bind fun (x36, x37, x38, x39, x40, x41, x42, _) =>
    some (x36, x37, (x38.1, x38.2), x39, x40, x41, x42, h))
    else (
    (if (a0 == 91) = true then (
    (F29 N ((ByteArray.mk #[116, 111, 111, 104, 105, 103, 104]), h)).bind fun (x43, x44, x45, x46, x47, x48, x49, _) =>
    some (x43, x44, (x45.1, x45.2), x46, x47, x48, x49, h))
    else (
    (F29 N ((ByteArray.mk #[98, 97, 100, 99, 111, 100, 101]), h)).bind fun (x50, x51, x52, x53, x54, x55, x56, _) =>
    some (x50, x51, (x52.1, x52.2), x53, x54, x55, x56, h)))))))))))))))
abbrev ks9 : List SK := [.one (.int .i64)]
abbrev rs9 : List SK := [.agg [(.int .i64), (.int .i64), (.cplx .f64), .str, (.int .i64), (.int .i64), .ref]]
noncomputable def e9 (N : Nat) : Env := ⟨Tryz.prog, 26, inTab [2], inTab [], natTab [(2, 2)], inTab [], calTab [(29, .ro (mkFun ks29 rs29 (F29 N)))], altTab [], loopTab [], natTab []⟩
theorem fine9 (N : Nat) : Fine (e9 N) N 9 Tryz.f9 ks9 rs9 (F9 N) :=
  ⟨Tryz.func9, by kernel_rfl, by kernel_rfl, by kernel_rfl, loops_of trivial, by kernel_rfl, by kernel_rfl, fun _ => by kernel_rfl⟩
theorem good9 (N : Nat) : Go.L.Good (e9 N) := good_of ⟨gd29 N, trivial⟩
theorem gd9 (N : Nat) : CalOk Tryz.prog 9 (.ro (mkFun ks9 rs9 (F9 N))) := mkFun_ro (fine9 N) (good9 N) (by kernel_rfl)

/-! ### 30: carouselref03.Name -/
noncomputable def F30 (N : Nat) : ByteArray × H → Option (Int × Int × (Nat × Nat) × ByteArray × Int × Int × V × H)
  | (a0, h) =>
    some (5, 0, (0, 0), a0, 0, 0, .nils, h)
abbrev ks30 : List SK := [.one .str]
abbrev rs30 : List SK := [.agg [(.int .i64), (.int .i64), (.cplx .f64), .str, (.int .i64), (.int .i64), .ref]]
noncomputable def e30 (N : Nat) : Env := ⟨Tryz.prog, 5, inTab [2], inTab [], natTab [(2, 2)], inTab [], calTab [], altTab [], loopTab [], natTab []⟩
theorem fine30 (N : Nat) : Fine (e30 N) N 30 Tryz.f30 ks30 rs30 (F30 N) :=
  ⟨Tryz.func30, by kernel_rfl, by kernel_rfl, by kernel_rfl, loops_of trivial, by kernel_rfl, by kernel_rfl, fun _ => by kernel_rfl⟩
theorem good30 (N : Nat) : Go.L.Good (e30 N) := good_of trivial
theorem gd30 (N : Nat) : CalOk Tryz.prog 30 (.ro (mkFun ks30 rs30 (F30 N))) := mkFun_ro (fine30 N) (good30 N) (by kernel_rfl)

/-! ### 10: carouselref10.Reason -/
noncomputable def F10 (N : Nat) : Int × H → Option (Int × Int × (Nat × Nat) × ByteArray × Int × Int × V × H)
  | (a0, h) =>
    (if (a0 == 0) = true then (
    (F30 N ((ByteArray.mk #[110, 111, 114, 109, 97, 108]), h)).bind fun (x1, x2, x3, x4, x5, x6, x7, _) =>
    some (x1, x2, (x3.1, x3.2), x4, x5, x6, x7, h))
    else (
    (if (a0 == 32) = true then (
    (F30 N ((ByteArray.mk #[98, 97, 100, 107, 105, 110, 100]), h)).bind fun (x8, x9, x10, x11, x12, x13, x14, _) =>
    some (x8, x9, (x10.1, x10.2), x11, x12, x13, x14, h))
    else (
    (if (a0 == 31) = true then (
    (F30 N ((ByteArray.mk #[98, 97, 100, 114, 97, 110, 103, 101]), h)).bind fun (x15, x16, x17, x18, x19, x20, x21, _) =>
    some (x15, x16, (x17.1, x17.2), x18, x19, x20, x21, h))
    else (
    (if (a0 == 33) = true then (
    (F30 N ((ByteArray.mk #[98, 97, 100, 122, 101, 114, 111]), h)).bind fun (x22, x23, x24, x25, x26, x27, x28, _) =>
    some (x22, x23, (x24.1, x24.2), x25, x26, x27, x28, h))
    else (
    (if (a0 == 34) = true then (
    (F30 N ((ByteArray.mk #[116, 111, 111, 98, 105, 103]), h)).bind fun (x29, x30, x31, x32, x33, x34, x35, _) =>
    some (x29, x30, (x31.1, x31.2), x32, x33, x34, x35, h))
    else (
    (if (a0 == 90) = true then (
    (F30 N ((ByteArray.mk #[116, 111, 111, 100, 101, 101, 112]), h)).bind fun (x36, x37, x38, x39, x40, x41, x42, _) =>
    some (x36, x37, (x38.1, x38.2), x39, x40, x41, x42, h))
    else (
    (if (a0 == 91) = true then (
    (F30 N ((ByteArray.mk #[116, 111, 111, 104, 105, 103, 104]), h)).bind fun (x43, x44, x45, x46, x47, x48, x49, _) =>
    some (x43, x44, (x45.1, x45.2), x46, x47, x48, x49, h))
    else (
    (F30 N ((ByteArray.mk #[98, 97, 100, 99, 111, 100, 101]), h)).bind fun (x50, x51, x52, x53, x54, x55, x56, _) =>
    some (x50, x51, (x52.1, x52.2), x53, x54, x55, x56, h)))))))))))))))
abbrev ks10 : List SK := [.one (.int .i64)]
abbrev rs10 : List SK := [.agg [(.int .i64), (.int .i64), (.cplx .f64), .str, (.int .i64), (.int .i64), .ref]]
noncomputable def e10 (N : Nat) : Env := ⟨Tryz.prog, 26, inTab [2], inTab [], natTab [(2, 2)], inTab [], calTab [(30, .ro (mkFun ks30 rs30 (F30 N)))], altTab [], loopTab [], natTab []⟩
theorem fine10 (N : Nat) : Fine (e10 N) N 10 Tryz.f10 ks10 rs10 (F10 N) :=
  ⟨Tryz.func10, by kernel_rfl, by kernel_rfl, by kernel_rfl, loops_of trivial, by kernel_rfl, by kernel_rfl, fun _ => by kernel_rfl⟩
theorem good10 (N : Nat) : Go.L.Good (e10 N) := good_of ⟨gd30 N, trivial⟩
theorem gd10 (N : Nat) : CalOk Tryz.prog 10 (.ro (mkFun ks10 rs10 (F10 N))) := mkFun_ro (fine10 N) (good10 N) (by kernel_rfl)

/-! ### 28: carouselref03.bits -/
noncomputable def F28 (N : Nat) : Nat × Nat × H → Option (Bool × H)
  | (a0, a1, h) =>
    (if ((FloatKind.f64.format.order a0 a0) != some .eq) = true then (
    some (true, h))
    else (
    some (((FloatKind.f64.format.order a1 a1) != some .eq), h))).bind fun (b1, h2) =>
    (if b1 = true then (
    (if ((FloatKind.f64.format.order a0 a0) != some .eq) = true then (
    some (((FloatKind.f64.format.order a1 a1) != some .eq), h2))
    else (
    some (false, h2))).bind fun (b3, h4) =>
    some (b3, h4))
    else (
    (if ((FloatKind.f64.format.order a0 a1) == some .eq) = true then (
    (if ((FloatKind.f64.format.order a0 0) != some .eq) = true then (
    some (true, h2))
    else (
    (FloatKind.f64.format.div 4607182418800017408 a0).bind fun x9 =>
    (FloatKind.f64.format.div 4607182418800017408 a1).bind fun x10 =>
    some (((FloatKind.f64.format.order x9 x10) == some .eq), h2))).bind fun (b7, h8) =>
    some (b7, h8))
    else (
    some (false, h2))).bind fun (b5, h6) =>
    some (b5, h6)))
abbrev ks28 : List SK := [.one (.float .f64), .one (.float .f64)]
abbrev rs28 : List SK := [.one .bool]
noncomputable def e28 (N : Nat) : Env := ⟨Tryz.prog, 35, inTab [], inTab [], natTab [], inTab [], calTab [], altTab [], loopTab [], natTab []⟩
theorem fine28 (N : Nat) : Fine (e28 N) N 28 Tryz.f28 ks28 rs28 (F28 N) :=
  ⟨Tryz.func28, by kernel_rfl, by kernel_rfl, by kernel_rfl, loops_of trivial, by kernel_rfl, by kernel_rfl, fun _ => by kernel_rfl⟩
theorem good28 (N : Nat) : Go.L.Good (e28 N) := good_of trivial
theorem gd28 : CalOk Tryz.prog 28 (.pure (mkP ks28 rs28 (F28 100))) := mkP_good (fine28 100) (good28 100) (by kernel_rfl) (by kernel_rfl)

/-! ### 8: carouselref03.Same -/
noncomputable def L8_0 (N : Nat) (rec : Int × Int × (Nat × Nat) × ByteArray × Int × Int × V × Int × Int × (Nat × Nat) × ByteArray × Int × Int × V × H → Option (Bool × H)) : Nat → Int × Int × Int × (Nat × Nat) × ByteArray × Int × Int × V × Int × Int × (Nat × Nat) × ByteArray × Int × Int × V × H → Option ((H) ⊕ (Bool × H))
  | 0, _ => none
  | n + 1, (x59, x60, x61, x62, x63, x64, x65, x66, x67, x68, x69, x70, x71, x72, x73, h74) =>
    (slen x66).bind fun n75 =>
    (if (decide (x59 < n75)) = true then (
    (sidx x66 x59 7).bind fun q76 =>
    (L.asInt .i64 (rd h74 q76 0)).bind fun x77 =>
    (L.asInt .i64 (rd h74 q76 1)).bind fun x78 =>
    (L.asCplx .f64 (rd h74 q76 2)).bind fun x79 =>
    (L.asStr (rd h74 q76 3)).bind fun x80 =>
    (L.asInt .i64 (rd h74 q76 4)).bind fun x81 =>
    (L.asInt .i64 (rd h74 q76 5)).bind fun x82 =>
    ((rd h74 q76 6)).bind fun x83 =>
    (sidx x73 x59 7).bind fun q84 =>
    (L.asInt .i64 (rd h74 q84 0)).bind fun x85 =>
    (L.asInt .i64 (rd h74 q84 1)).bind fun x86 =>
    (L.asCplx .f64 (rd h74 q84 2)).bind fun x87 =>
    (L.asStr (rd h74 q84 3)).bind fun x88 =>
    (L.asInt .i64 (rd h74 q84 4)).bind fun x89 =>
    (L.asInt .i64 (rd h74 q84 5)).bind fun x90 =>
    ((rd h74 q84 6)).bind fun x91 =>
    (rec (x77, x78, (x79.1, x79.2), x80, x81, x82, x83, x85, x86, (x87.1, x87.2), x88, x89, x90, x91, h74)).bind fun (x92, _) =>
    (if (!x92) = true then (
    some (.inr (false, h74)))
    else (
    L8_0 N rec n ((IntKind.i64.wrap (x59 + 1)), x60, x61, (x62.1, x62.2), x63, x64, x65, x66, x67, x68, (x69.1, x69.2), x70, x71, x72, x73, h74))))
    else (
    some (.inl h74)))
noncomputable def F8 (N : Nat) : Nat → Int × Int × (Nat × Nat) × ByteArray × Int × Int × V × Int × Int × (Nat × Nat) × ByteArray × Int × Int × V × H → Option (Bool × H)
  | 0, _ => none
  | d + 1, (a0_0, a0_1, a0_2, a0_3, a0_4, a0_5, a0_6, a1_0, a1_1, a1_2, a1_3, a1_4, a1_5, a1_6, h) =>
    (if (a0_0 != a1_0) = true then (
    some (true, h))
    else (
    some ((a0_1 != a1_1), h))).bind fun (b1, h2) =>
    (if b1 = true then (
    some (true, h2))
    else (
    some ((!((a0_3).toList == (a1_3).toList)), h2))).bind fun (b3, h4) =>
    (if b3 = true then (
    some (true, h4))
    else (
    some ((!((a0_4 == a1_4) && ((a0_5 == a1_5) && true))), h4))).bind fun (b5, h6) =>
    (if b5 = true then (
    some (true, h6))
    else (
    (slen a0_6).bind fun n9 =>
    (slen a1_6).bind fun n10 =>
    some ((n9 != n10), h6))).bind fun (b7, h8) =>
    (if b7 = true then (
    some (false, h8))
    else (
    (if (a0_0 == 4) = true then (
    (F28 100 (a0_2.1, a1_2.1, [])).bind fun (x13, _) =>
    (if (!x13) = true then (
    some (true, h8))
    else (
    (F28 100 (a0_2.2, a1_2.2, [])).bind fun (x16, _) =>
    some ((!x16), h8))).bind fun (b14, h15) =>
    some (b14, h15))
    else (
    some (false, h8))).bind fun (b11, h12) =>
    (if b11 = true then (
    some (true, h12))
    else (
    (if (a0_0 != 4) = true then (
    some ((!(Op.floatEq .f64 a0_2.1 a1_2.1 && Op.floatEq .f64 a0_2.2 a1_2.2)), h12))
    else (
    some (false, h12))).bind fun (b19, h20) =>
    (if b19 = true then (
    (if (Op.floatEq .f64 a0_2.1 a0_2.1 && Op.floatEq .f64 a0_2.2 a0_2.2) = true then (
    some (true, h20))
    else (
    some ((Op.floatEq .f64 a1_2.1 a1_2.1 && Op.floatEq .f64 a1_2.2 a1_2.2), h20))).bind fun (b23, h24) =>
    some (b23, h24))
    else (
    some (false, h20))).bind fun (b21, h22) =>
    some (b21, h22))).bind fun (b17, h18) =>
    (if b17 = true then (
    some (false, h18))
    else (
    (L8_0 N (F8 N d) N (0, a0_0, a0_1, (a0_2.1, a0_2.2), a0_3, a0_4, a0_5, a0_6, a1_0, a1_1, (a1_2.1, a1_2.2), a1_3, a1_4, a1_5, a1_6, h18)).bind fun o93 => match o93 with
    | .inl h94 => (
    some (true, h94))
    | .inr (x95, h96) => (
    some (x95, h96))))))
abbrev ks8 : List SK := [.agg [(.int .i64), (.int .i64), (.cplx .f64), .str, (.int .i64), (.int .i64), .ref], .agg [(.int .i64), (.int .i64), (.cplx .f64), .str, (.int .i64), (.int .i64), .ref]]
abbrev rs8 : List SK := [.one .bool]
noncomputable def e8 (N d : Nat) : Env := ⟨Tryz.prog, 109, inTab [2, 3], inTab [], natTab [(2, 2), (3, 3), (6, 2), (8, 3), (12, 2), (14, 3), (19, 2), (21, 3), (26, 2), (28, 3), (33, 2), (36, 3), (41, 2), (45, 2), (48, 3), (54, 2), (57, 3), (65, 2), (69, 2), (71, 3), (76, 2), (78, 2), (82, 3), (84, 3), (91, 2), (97, 2), (102, 3)], inTab [], calTab [(28, .pure (mkP ks28 rs28 (F28 100))), (8, .ro (mkFun ks8 rs8 (F8 N d)))], altTab [], loopTab [(6, ⟨⟨.normal, [2, 3, 5], [.lp 2 0, .lp 3 0, .one (.int .i64)], [2, 3], [.cells [(.int .i64), (.int .i64), (.cplx .f64), .str, (.int .i64), (.int .i64), .ref], .cells [(.int .i64), (.int .i64), (.cplx .f64), .str, (.int .i64), (.int .i64), .ref]]⟩, [⟨(.exit 0), [], [], [], []⟩, ⟨.ret, [4], [.one .bool], [], []⟩], L8_0 N (F8 N d)⟩)], natTab []⟩
theorem l8_0 (N d : Nat) : ∀ A, (e8 N d).lp (lid (loopAt Tryz.f8 0)) = some A → LoopOk (e8 N d) N (loopAt Tryz.f8 0) A :=
  loopOk_of (A := ⟨⟨.normal, [2, 3, 5], [.lp 2 0, .lp 3 0, .one (.int .i64)], [2, 3], [.cells [(.int .i64), (.int .i64), (.cplx .f64), .str, (.int .i64), (.int .i64), .ref], .cells [(.int .i64), (.int .i64), (.cplx .f64), .str, (.int .i64), (.int .i64), .ref]]⟩, [⟨(.exit 0), [], [], [], []⟩, ⟨.ret, [4], [.one .bool], [], []⟩], L8_0 N (F8 N d)⟩) (by kernel_rfl) (fun _ => rfl) (fun _ _ => by kernel_rfl)
theorem fine8 (N d : Nat) : Fine (e8 N d) N 8 Tryz.f8 ks8 rs8 (F8 N (d + 1)) :=
  ⟨Tryz.func8, by kernel_rfl, by kernel_rfl, by kernel_rfl, loops_of ⟨l8_0 N d, trivial⟩, by kernel_rfl, by kernel_rfl, fun _ => by kernel_rfl⟩
theorem gd8 (N : Nat) : ∀ d, CalOk Tryz.prog 8 (.ro (mkFun ks8 rs8 (F8 N d)))
  | 0 => fun vs h s he => by obtain ⟨t, _, he⟩ := Option.bind_eq_some_iff.1 he; cases he
  | d + 1 => mkFun_ro (fine8 N d) (good_of ⟨gd28, ⟨gd8 N d, trivial⟩⟩) (by kernel_rfl)
theorem good8 (N d : Nat) : Go.L.Good (e8 N d) := good_of ⟨gd28, ⟨gd8 N d, trivial⟩⟩

/-! ### 388: carouselref03.whole -/
noncomputable def F388 (N : Nat) : Nat × H → Option (Bool × H)
  | (a0, h) =>
    (if ((FloatKind.f64.format.order a0 13965662444475908096) == some .gt || (FloatKind.f64.format.order a0 13965662444475908096) == some .eq) = true then (
    some (((FloatKind.f64.format.order a0 4742290407621132288) == some .lt || (FloatKind.f64.format.order a0 4742290407621132288) == some .eq), h))
    else (
    some (false, h))).bind fun (b1, h2) =>
    (if (!b1) = true then (
    some (false, h2))
    else (
    (f2i .f64 a0 .i64).bind fun x3 =>
    (if ((FloatKind.f64.format.order (FloatKind.f64.nearest x3) a0) == some .eq) = true then (
    (if ((FloatKind.f64.format.order a0 0) != some .eq) = true then (
    some (true, h2))
    else (
    (FloatKind.f64.format.div 4607182418800017408 a0).bind fun x8 =>
    some (((FloatKind.f64.format.order x8 0) == some .gt), h2))).bind fun (b6, h7) =>
    some (b6, h7))
    else (
    some (false, h2))).bind fun (b4, h5) =>
    some (b4, h5)))
abbrev ks388 : List SK := [.one (.float .f64)]
abbrev rs388 : List SK := [.one .bool]
noncomputable def e388 (N : Nat) : Env := ⟨Tryz.prog, 24, inTab [], inTab [], natTab [], inTab [], calTab [], altTab [], loopTab [], natTab []⟩
theorem fine388 (N : Nat) : Fine (e388 N) N 388 Tryz.f388 ks388 rs388 (F388 N) :=
  ⟨Tryz.func388, by kernel_rfl, by kernel_rfl, by kernel_rfl, loops_of trivial, by kernel_rfl, by kernel_rfl, fun _ => by kernel_rfl⟩
theorem good388 (N : Nat) : Go.L.Good (e388 N) := good_of trivial
theorem gd388 : CalOk Tryz.prog 388 (.pure (mkP ks388 rs388 (F388 100))) := mkP_good (fine388 100) (good388 100) (by kernel_rfl) (by kernel_rfl)

/-! ### 482: carouselref03.lower -/
noncomputable def F482 (N : Nat) : Int × H → Option (Bool × H)
  | (a0, h) =>
    (if (decide (a0 ≥ 97)) = true then (
    some ((decide (a0 ≤ 122)), h))
    else (
    some (false, h))).bind fun (b1, h2) =>
    some (b1, h2)
abbrev ks482 : List SK := [.one (.int .u8)]
abbrev rs482 : List SK := [.one .bool]
noncomputable def e482 (N : Nat) : Env := ⟨Tryz.prog, 9, inTab [], inTab [], natTab [], inTab [], calTab [], altTab [], loopTab [], natTab []⟩
theorem fine482 (N : Nat) : Fine (e482 N) N 482 Tryz.f482 ks482 rs482 (F482 N) :=
  ⟨Tryz.func482, by kernel_rfl, by kernel_rfl, by kernel_rfl, loops_of trivial, by kernel_rfl, by kernel_rfl, fun _ => by kernel_rfl⟩
theorem good482 (N : Nat) : Go.L.Good (e482 N) := good_of trivial
theorem gd482 : CalOk Tryz.prog 482 (.pure (mkP ks482 rs482 (F482 100))) := mkP_good (fine482 100) (good482 100) (by kernel_rfl) (by kernel_rfl)

/-! ### 389: carouselref03.Atom -/
noncomputable def L389_0 (N : Nat) : Nat → ByteArray × Int × H → Option ((H) ⊕ (Bool × H))
  | 0, _ => none
  | n + 1, (x28, x29, h30) =>
    (if (decide (x29 < ((x28).size : Int))) = true then (
    (if 0 ≤ x29 then (x28[Int.toNat x29]?.bind fun c31 =>
    (F482 100 (((UInt8.toNat c31 : Nat) : Int), [])).bind fun (x32, _) =>
    (if (!x32) = true then (
    (if (decide (((UInt8.toNat c31 : Nat) : Int) ≥ 65)) = true then (
    some ((decide (((UInt8.toNat c31 : Nat) : Int) ≤ 90)), h30))
    else (
    some (false, h30))).bind fun (b35, h36) =>
    some ((!b35), h36))
    else (
    some (false, h30))).bind fun (b33, h34) =>
    (if b33 = true then (
    (if (decide (((UInt8.toNat c31 : Nat) : Int) ≥ 48)) = true then (
    some ((decide (((UInt8.toNat c31 : Nat) : Int) ≤ 57)), h34))
    else (
    some (false, h34))).bind fun (b39, h40) =>
    some ((!b39), h40))
    else (
    some (false, h34))).bind fun (b37, h38) =>
    (if b37 = true then (
    some ((((UInt8.toNat c31 : Nat) : Int) != 95), h38))
    else (
    some (false, h38))).bind fun (b41, h42) =>
    (if b41 = true then (
    some (.inr (false, h42)))
    else (
    L389_0 N n (x28, (IntKind.i64.wrap (x29 + 1)), h42)))) else none))
    else (
    some (.inl h30)))
noncomputable def F389 (N : Nat) : ByteArray × H → Option (Bool × H)
  | (a0, h) =>
    (if (decide (((a0).size : Int) < 1)) = true then (
    some (true, h))
    else (
    some ((decide (((a0).size : Int) > 64)), h))).bind fun (b1, h2) =>
    (if b1 = true then (
    some (true, h2))
    else (
    (if 0 ≤ 0 then (a0[Int.toNat 0]?.bind fun c5 =>
    (F482 100 (((UInt8.toNat c5 : Nat) : Int), [])).bind fun (x6, _) =>
    some ((!x6), h2)) else none))).bind fun (b3, h4) =>
    (if b3 = true then (
    some (true, h4))
    else (
    some (((a0).toList == ((ByteArray.mk #[110, 105, 108])).toList), h4))).bind fun (b7, h8) =>
    (if b7 = true then (
    some (true, h8))
    else (
    some (((a0).toList == ((ByteArray.mk #[116, 114, 117, 101])).toList), h8))).bind fun (b9, h10) =>
    (if b9 = true then (
    some (true, h10))
    else (
    some (((a0).toList == ((ByteArray.mk #[102, 97, 108, 115, 101])).toList), h10))).bind fun (b11, h12) =>
    (if b11 = true then (
    some (false, h12))
    else (
    (L389_0 N N (a0, 0, h12)).bind fun o43 => match o43 with
    | .inl h44 => (
    some (true, h44))
    | .inr (x45, h46) => (
    some (x45, h46))))
abbrev ks389 : List SK := [.one .str]
abbrev rs389 : List SK := [.one .bool]
noncomputable def e389 (N : Nat) : Env := ⟨Tryz.prog, 65, inTab [], inTab [], natTab [], inTab [], calTab [(482, .pure (mkP ks482 rs482 (F482 100)))], altTab [], loopTab [(4, ⟨⟨.normal, [0, 3], [.one .str, .one (.int .i64)], [], []⟩, [⟨(.exit 0), [], [], [], []⟩, ⟨.ret, [2], [.one .bool], [], []⟩], L389_0 N⟩)], natTab []⟩
theorem l389_0 (N : Nat) : ∀ A, (e389 N).lp (lid (loopAt Tryz.f389 0)) = some A → LoopOk (e389 N) N (loopAt Tryz.f389 0) A :=
  loopOk_of (A := ⟨⟨.normal, [0, 3], [.one .str, .one (.int .i64)], [], []⟩, [⟨(.exit 0), [], [], [], []⟩, ⟨.ret, [2], [.one .bool], [], []⟩], L389_0 N⟩) (by kernel_rfl) (fun _ => rfl) (fun _ _ => by kernel_rfl)
theorem fine389 (N : Nat) : Fine (e389 N) N 389 Tryz.f389 ks389 rs389 (F389 N) :=
  ⟨Tryz.func389, by kernel_rfl, by kernel_rfl, by kernel_rfl, loops_of ⟨l389_0 N, trivial⟩, by kernel_rfl, by kernel_rfl, fun _ => by kernel_rfl⟩
theorem good389 (N : Nat) : Go.L.Good (e389 N) := good_of ⟨gd482, trivial⟩
theorem gd389 : CalOk Tryz.prog 389 (.pure (mkP ks389 rs389 (F389 100))) := mkP_good (fine389 100) (good389 100) (by kernel_rfl) (by kernel_rfl)

/-! ### 390: carouselref03.Pid -/
noncomputable def F390 (N : Nat) : Int × Int × H → Option (Bool × H)
  | (a0_0, a0_1, h) =>
    (if (decide (a0_0 ≥ 0)) = true then (
    some ((decide (a0_0 < 256)), h))
    else (
    some (false, h))).bind fun (b1, h2) =>
    (if b1 = true then (
    some ((decide (a0_1 ≥ 1)), h2))
    else (
    some (false, h2))).bind fun (b3, h4) =>
    (if b3 = true then (
    some ((decide (a0_1 ≤ 4611686018427387903)), h4))
    else (
    some (false, h4))).bind fun (b5, h6) =>
    some (b5, h6)
abbrev ks390 : List SK := [.agg [(.int .i64), (.int .i64)]]
abbrev rs390 : List SK := [.one .bool]
noncomputable def e390 (N : Nat) : Env := ⟨Tryz.prog, 21, inTab [1], inTab [], natTab [(1, 1), (3, 1), (7, 1), (12, 1), (17, 1)], inTab [], calTab [], altTab [], loopTab [], natTab []⟩
theorem fine390 (N : Nat) : Fine (e390 N) N 390 Tryz.f390 ks390 rs390 (F390 N) :=
  ⟨Tryz.func390, by kernel_rfl, by kernel_rfl, by kernel_rfl, loops_of trivial, by kernel_rfl, by kernel_rfl, fun _ => by kernel_rfl⟩
theorem good390 (N : Nat) : Go.L.Good (e390 N) := good_of trivial
theorem gd390 : CalOk Tryz.prog 390 (.pure (mkP ks390 rs390 (F390 100))) := mkP_good (fine390 100) (good390 100) (by kernel_rfl) (by kernel_rfl)

/-! ### 391: carouselref03.zero -/
noncomputable def F391 (N : Nat) : (Nat × Nat) × H → Option (Bool × H)
  | (a0, h) =>
    some ((Op.floatEq .f64 a0.1 0 && Op.floatEq .f64 a0.2 0), h)
abbrev ks391 : List SK := [.one (.cplx .f64)]
abbrev rs391 : List SK := [.one .bool]
noncomputable def e391 (N : Nat) : Env := ⟨Tryz.prog, 5, inTab [], inTab [], natTab [], inTab [], calTab [], altTab [], loopTab [], natTab []⟩
theorem fine391 (N : Nat) : Fine (e391 N) N 391 Tryz.f391 ks391 rs391 (F391 N) :=
  ⟨Tryz.func391, by kernel_rfl, by kernel_rfl, by kernel_rfl, loops_of trivial, by kernel_rfl, by kernel_rfl, fun _ => by kernel_rfl⟩
theorem good391 (N : Nat) : Go.L.Good (e391 N) := good_of trivial
theorem gd391 : CalOk Tryz.prog 391 (.pure (mkP ks391 rs391 (F391 100))) := mkP_good (fine391 100) (good391 100) (by kernel_rfl) (by kernel_rfl)

/-! ### 311: carouselref03.one -/
noncomputable def F311 (N : Nat) : Int × Int × (Nat × Nat) × ByteArray × Int × Int × V × H → Option (Bool × H)
  | (a0_0, a0_1, a0_2, a0_3, a0_4, a0_5, a0_6, h) =>
    ((if (a0_0 == 1) = true then (
    some (.inl (true, a0_0, a0_1, (a0_2.1, a0_2.2), a0_3, a0_4, a0_5, a0_6, a0_0, 0, (0, 0), (ByteArray.mk #[]), 0, 0, .nils, h)))
    else (
    (if (a0_0 == 2) = true then (
    (if (a0_1 == 0) = true then (
    some (true, h))
    else (
    some ((a0_1 == 1), h))).bind fun (b1, h2) =>
    some (.inl (b1, a0_0, a0_1, (a0_2.1, a0_2.2), a0_3, a0_4, a0_5, a0_6, a0_0, a0_1, (0, 0), (ByteArray.mk #[]), 0, 0, .nils, h2)))
    else (
    (if (a0_0 == 3) = true then (
    (if (decide (a0_1 ≥ (-4611686018427387903))) = true then (
    some ((decide (a0_1 ≤ 4611686018427387903)), h))
    else (
    some (false, h))).bind fun (b3, h4) =>
    some (.inl (b3, a0_0, a0_1, (a0_2.1, a0_2.2), a0_3, a0_4, a0_5, a0_6, a0_0, a0_1, (0, 0), (ByteArray.mk #[]), 0, 0, .nils, h4)))
    else (
    (if (a0_0 == 7) = true then (
    (if (decide (a0_1 ≥ 1)) = true then (
    some ((decide (a0_1 ≤ 4611686018427387903)), h))
    else (
    some (false, h))).bind fun (b5, h6) =>
    some (.inl (b5, a0_0, a0_1, (a0_2.1, a0_2.2), a0_3, a0_4, a0_5, a0_6, a0_0, a0_1, (0, 0), (ByteArray.mk #[]), 0, 0, .nils, h6)))
    else (
    (if (a0_0 == 4) = true then (
    (F388 100 (a0_2.1, [])).bind fun (x7, _) =>
    (if x7 = true then (
    (F388 100 (a0_2.2, [])).bind fun (x10, _) =>
    some (x10, h))
    else (
    some (false, h))).bind fun (b8, h9) =>
    some (.inl (b8, a0_0, a0_1, (a0_2.1, a0_2.2), a0_3, a0_4, a0_5, a0_6, a0_0, 0, (a0_2.1, a0_2.2), (ByteArray.mk #[]), 0, 0, .nils, h9)))
    else (
    (if (a0_0 == 5) = true then (
    (F389 100 (a0_3, [])).bind fun (x11, _) =>
    some (.inl (x11, a0_0, a0_1, (a0_2.1, a0_2.2), a0_3, a0_4, a0_5, a0_6, a0_0, 0, (0, 0), a0_3, 0, 0, .nils, h)))
    else (
    (if (a0_0 == 6) = true then (
    (F390 100 (a0_4, a0_5, [])).bind fun (x12, _) =>
    some (.inl (x12, a0_0, a0_1, (a0_2.1, a0_2.2), a0_3, a0_4, a0_5, a0_6, a0_0, 0, (0, 0), (ByteArray.mk #[]), a0_4, a0_5, .nils, h)))
    else (
    ((if (a0_0 == 8) = true then (
    some ((a0_0 == 8), a0_0, a0_1, (a0_2.1, a0_2.2), a0_3, a0_4, a0_5, a0_6, a0_0, 0, (0, 0), (ByteArray.mk #[]), 0, 0, .nils, h))
    else (
    some ((a0_0 == 9), a0_0, a0_1, (a0_2.1, a0_2.2), a0_3, a0_4, a0_5, a0_6, a0_0, 0, (0, 0), (ByteArray.mk #[]), 0, 0, .nils, h))) : Option (Bool × Int × Int × (Nat × Nat) × ByteArray × Int × Int × V × Int × Int × (Nat × Nat) × ByteArray × Int × Int × V × H)).bind fun (x13, x14, x15, x16, x17, x18, x19, x20, x21, x22, x23, x24, x25, x26, x27, h28) =>
    (if x13 = true then (
    (if (x15 == 0) = true then (
    some (((x17).toList == ((ByteArray.mk #[])).toList), h28))
    else (
    some (false, h28))).bind fun (b29, h30) =>
    (if b29 = true then (
    some (((x18 == x25) && ((x19 == x26) && true)), h30))
    else (
    some (false, h30))).bind fun (b31, h32) =>
    (if b31 = true then (
    (F391 100 ((x16.1, x16.2), [])).bind fun (x35, _) =>
    some (x35, h32))
    else (
    some (false, h32))).bind fun (b33, h34) =>
    some (.inr (b33, h34)))
    else (
    some (.inr (false, h28)))))))))))))))))) : Option ((Bool × Int × Int × (Nat × Nat) × ByteArray × Int × Int × V × Int × Int × (Nat × Nat) × ByteArray × Int × Int × V × H) ⊕ (Bool × H))).bind fun o36 => match o36 with
    | .inl (x37, x38, x39, x40, x41, x42, x43, x44, x45, x46, x47, x48, x49, x50, x51, h52) => (
    (if x37 = true then (
    (slen x44).bind fun n55 =>
    some ((n55 == 0), h52))
    else (
    some (false, h52))).bind fun (b53, h54) =>
    (if b53 = true then (
    some ((x39 == x46), h54))
    else (
    some (false, h54))).bind fun (b56, h57) =>
    (if b56 = true then (
    some (((x41).toList == (x48).toList), h57))
    else (
    some (false, h57))).bind fun (b58, h59) =>
    (if b58 = true then (
    some (((x42 == x49) && ((x43 == x50) && true)), h59))
    else (
    some (false, h59))).bind fun (b60, h61) =>
    (if b60 = true then (
    (if (x38 == 4) = true then (
    some (true, h61))
    else (
    (F391 100 ((x40.1, x40.2), [])).bind fun (x66, _) =>
    some (x66, h61))).bind fun (b64, h65) =>
    some (b64, h65))
    else (
    some (false, h61))).bind fun (b62, h63) =>
    some (b62, h63))
    | .inr (x67, h68) => (
    some (x67, h68))
abbrev ks311 : List SK := [.agg [(.int .i64), (.int .i64), (.cplx .f64), .str, (.int .i64), (.int .i64), .ref]]
abbrev rs311 : List SK := [.one .bool]
noncomputable def e311 (N : Nat) : Env := ⟨Tryz.prog, 143, inTab [1, 3], inTab [], natTab [(1, 1), (3, 3), (5, 1), (8, 1), (14, 1), (16, 3), (17, 1), (21, 1), (27, 1), (29, 3), (30, 1), (34, 1), (40, 1), (42, 3), (43, 1), (47, 1), (53, 1), (55, 3), (56, 1), (61, 1), (68, 1), (70, 3), (71, 1), (76, 1), (78, 3), (79, 1), (85, 1), (89, 1), (94, 1), (96, 3), (101, 1), (107, 1), (113, 1), (115, 3), (120, 1), (122, 3), (127, 1), (129, 3), (134, 1), (138, 1)], inTab [], calTab [(388, .pure (mkP ks388 rs388 (F388 100))), (389, .pure (mkP ks389 rs389 (F389 100))), (390, .pure (mkP ks390 rs390 (F390 100))), (391, .pure (mkP ks391 rs391 (F391 100)))], altTab [(1610612746, [⟨.normal, [1, 3, 4], [.lp 1 0, .lp 3 0, .one .bool], [1, 3], [.cells [(.int .i64), (.int .i64), (.cplx .f64), .str, (.int .i64), (.int .i64), .ref], .cells [(.int .i64), (.int .i64), (.cplx .f64), .str, (.int .i64), (.int .i64), .ref]]⟩, ⟨.ret, [2], [.one .bool], [], []⟩]), (6710886482, [⟨.normal, [1, 3, 82], [.lp 1 0, .lp 3 0, .one .bool], [1, 3], [.cells [(.int .i64), (.int .i64), (.cplx .f64), .str, (.int .i64), (.int .i64), .ref], .cells [(.int .i64), (.int .i64), (.cplx .f64), .str, (.int .i64), (.int .i64), .ref]]⟩])], loopTab [], natTab []⟩
theorem fine311 (N : Nat) : Fine (e311 N) N 311 Tryz.f311 ks311 rs311 (F311 N) :=
  ⟨Tryz.func311, by kernel_rfl, by kernel_rfl, by kernel_rfl, loops_of trivial, by kernel_rfl, by kernel_rfl, fun _ => by kernel_rfl⟩
theorem good311 (N : Nat) : Go.L.Good (e311 N) := good_of ⟨gd388, ⟨gd389, ⟨gd390, ⟨gd391, trivial⟩⟩⟩⟩
theorem gd311 (N : Nat) : CalOk Tryz.prog 311 (.ro (mkFun ks311 rs311 (F311 N))) := mkFun_ro (fine311 N) (good311 N) (by kernel_rfl)

/-! ### 238: carouselref03.walk -/
noncomputable def L238_0 (N : Nat) (rec : Int × Int × (Nat × Nat) × ByteArray × Int × Int × V × Int × Int × H → Option (Int × Int × H)) : Nat → Int × Int × Int × Int × Int × (Nat × Nat) × ByteArray × Int × Int × V × H → Option ((Int × H) ⊕ (Int × Int × H))
  | 0, _ => none
  | n + 1, (x26, x27, x28, x29, x30, x31, x32, x33, x34, x35, h36) =>
    (slen x35).bind fun n37 =>
    (if (decide (x28 < n37)) = true then (
    (sidx x35 x28 7).bind fun q38 =>
    (L.asInt .i64 (rd h36 q38 0)).bind fun x39 =>
    (L.asInt .i64 (rd h36 q38 1)).bind fun x40 =>
    (L.asCplx .f64 (rd h36 q38 2)).bind fun x41 =>
    (L.asStr (rd h36 q38 3)).bind fun x42 =>
    (L.asInt .i64 (rd h36 q38 4)).bind fun x43 =>
    (L.asInt .i64 (rd h36 q38 5)).bind fun x44 =>
    ((rd h36 q38 6)).bind fun x45 =>
    (rec (x39, x40, (x41.1, x41.2), x42, x43, x44, x45, x26, (IntKind.i64.wrap (x27 + 1)), h36)).bind fun (x46, x47, _) =>
    (if (x47 != 0) = true then (
    some (.inr (x46, x47, h36)))
    else (
    L238_0 N rec n (x46, x27, (IntKind.i64.wrap (x28 + 1)), x29, x30, (x31.1, x31.2), x32, x33, x34, x35, h36))))
    else (
    some (.inl (x26, h36))))
noncomputable def F238 (N : Nat) : Nat → Int × Int × (Nat × Nat) × ByteArray × Int × Int × V × Int × Int × H → Option (Int × Int × H)
  | 0, _ => none
  | d + 1, (a0_0, a0_1, a0_2, a0_3, a0_4, a0_5, a0_6, a1, a2, h) =>
    (if (decide (a1 ≥ 1024)) = true then (
    some (true, h))
    else (
    some ((decide (a2 ≥ 64)), h))).bind fun (b1, h2) =>
    (if b1 = true then (
    some (a1, 34, h2))
    else (
    (F311 N (a0_0, a0_1, (a0_2.1, a0_2.2), a0_3, a0_4, a0_5, a0_6, h2)).bind fun (x3, _) =>
    (if (!x3) = true then (
    some (a1, 30, h2))
    else (
    (L238_0 N (F238 N d) N ((IntKind.i64.wrap (a1 + 1)), a2, 0, a0_0, a0_1, (a0_2.1, a0_2.2), a0_3, a0_4, a0_5, a0_6, h2)).bind fun o48 => match o48 with
    | .inl (x49, h50) => (
    some (x49, 0, h50))
    | .inr (x51, x52, h53) => (
    some (x51, x52, h53))))))
abbrev ks238 : List SK := [.agg [(.int .i64), (.int .i64), (.cplx .f64), .str, (.int .i64), (.int .i64), .ref], .one (.int .i64), .one (.int .i64)]
abbrev rs238 : List SK := [.one (.int .i64), .one (.int .i64)]
noncomputable def e238 (N d : Nat) : Env := ⟨Tryz.prog, 49, inTab [3], inTab [], natTab [(3, 3), (25, 3), (32, 3)], inTab [], calTab [(311, .ro (mkFun ks311 rs311 (F311 N))), (238, .ro (mkFun ks238 rs238 (F238 N d)))], altTab [], loopTab [(7, ⟨⟨.normal, [1, 2, 3, 8], [.one (.int .i64), .one (.int .i64), .lp 3 0, .one (.int .i64)], [3], [.cells [(.int .i64), (.int .i64), (.cplx .f64), .str, (.int .i64), (.int .i64), .ref]]⟩, [⟨(.exit 0), [1], [.one (.int .i64)], [], []⟩, ⟨.ret, [6, 7], [.one (.int .i64), .one (.int .i64)], [], []⟩], L238_0 N (F238 N d)⟩)], natTab []⟩
theorem l238_0 (N d : Nat) : ∀ A, (e238 N d).lp (lid (loopAt Tryz.f238 0)) = some A → LoopOk (e238 N d) N (loopAt Tryz.f238 0) A :=
  loopOk_of (A := ⟨⟨.normal, [1, 2, 3, 8], [.one (.int .i64), .one (.int .i64), .lp 3 0, .one (.int .i64)], [3], [.cells [(.int .i64), (.int .i64), (.cplx .f64), .str, (.int .i64), (.int .i64), .ref]]⟩, [⟨(.exit 0), [1], [.one (.int .i64)], [], []⟩, ⟨.ret, [6, 7], [.one (.int .i64), .one (.int .i64)], [], []⟩], L238_0 N (F238 N d)⟩) (by kernel_rfl) (fun _ => rfl) (fun _ _ => by kernel_rfl)
theorem fine238 (N d : Nat) : Fine (e238 N d) N 238 Tryz.f238 ks238 rs238 (F238 N (d + 1)) :=
  ⟨Tryz.func238, by kernel_rfl, by kernel_rfl, by kernel_rfl, loops_of ⟨l238_0 N d, trivial⟩, by kernel_rfl, by kernel_rfl, fun _ => by kernel_rfl⟩
theorem gd238 (N : Nat) : ∀ d, CalOk Tryz.prog 238 (.ro (mkFun ks238 rs238 (F238 N d)))
  | 0 => fun vs h s he => by obtain ⟨t, _, he⟩ := Option.bind_eq_some_iff.1 he; cases he
  | d + 1 => mkFun_ro (fine238 N d) (good_of ⟨gd311 N, ⟨gd238 N d, trivial⟩⟩) (by kernel_rfl)
theorem good238 (N d : Nat) : Go.L.Good (e238 N d) := good_of ⟨gd311 N, ⟨gd238 N d, trivial⟩⟩

/-! ### 178: carouselref03.Check -/
noncomputable def F178 (N : Nat) : Int × Int × (Nat × Nat) × ByteArray × Int × Int × V × H → Option (Int × H)
  | (a0_0, a0_1, a0_2, a0_3, a0_4, a0_5, a0_6, h) =>
    (F238 N N (a0_0, a0_1, (a0_2.1, a0_2.2), a0_3, a0_4, a0_5, a0_6, 0, 0, h)).bind fun (x1, x2, _) =>
    some (x2, h)
abbrev ks178 : List SK := [.agg [(.int .i64), (.int .i64), (.cplx .f64), .str, (.int .i64), (.int .i64), .ref]]
abbrev rs178 : List SK := [.one (.int .i64)]
noncomputable def e178 (N : Nat) : Env := ⟨Tryz.prog, 11, inTab [1], inTab [], natTab [(1, 1)], inTab [], calTab [(238, .ro (mkFun ks238 rs238 (F238 N N)))], altTab [], loopTab [], natTab []⟩
theorem fine178 (N : Nat) : Fine (e178 N) N 178 Tryz.f178 ks178 rs178 (F178 N) :=
  ⟨Tryz.func178, by kernel_rfl, by kernel_rfl, by kernel_rfl, loops_of trivial, by kernel_rfl, by kernel_rfl, fun _ => by kernel_rfl⟩
theorem good178 (N : Nat) : Go.L.Good (e178 N) := good_of ⟨gd238 N N, trivial⟩
theorem gd178 (N : Nat) : CalOk Tryz.prog 178 (.ro (mkFun ks178 rs178 (F178 N))) := mkFun_ro (fine178 N) (good178 N) (by kernel_rfl)

/-! ### 169: carouselref05.one -/
noncomputable def F169 (N : Nat) : Int × Int × Int × Int × (Nat × Nat) × ByteArray × Int × Int × V × V × V × Int × H → Option (Bool × H)
  | (a0_0, a0_1, a0_2, a0_3, a0_4, a0_5, a0_6, a0_7, a0_8, a0_9, a0_10, a1, h) =>
    (F8 N N (a0_2, a0_3, (a0_4.1, a0_4.2), a0_5, a0_6, a0_7, a0_8, 0, 0, (0, 0), (ByteArray.mk #[]), 0, 0, .nils, h)).bind fun (x1, _) =>
    (if (a0_0 == 1) = true then (
    (if x1 = true then (
    some ((a0_1 == 0), h))
    else (
    some (false, h))).bind fun (b2, h3) =>
    (if b2 = true then (
    (slen a0_9).bind fun n6 =>
    some ((n6 == 0), h3))
    else (
    some (false, h3))).bind fun (b4, h5) =>
    (if b4 = true then (
    (slen a0_10).bind fun n9 =>
    some ((n9 == 0), h5))
    else (
    some (false, h5))).bind fun (b7, h8) =>
    some (b7, h8))
    else (
    (if (a0_0 == 2) = true then (
    (if x1 = true then (
    some ((decide (a0_1 ≥ 0)), h))
    else (
    some (false, h))).bind fun (b10, h11) =>
    (if b10 = true then (
    some ((decide (a0_1 < a1)), h11))
    else (
    some (false, h11))).bind fun (b12, h13) =>
    (if b12 = true then (
    (slen a0_9).bind fun n16 =>
    some ((n16 == 0), h13))
    else (
    some (false, h13))).bind fun (b14, h15) =>
    (if b14 = true then (
    (slen a0_10).bind fun n19 =>
    some ((n19 == 0), h15))
    else (
    some (false, h15))).bind fun (b17, h18) =>
    some (b17, h18))
    else (
    (if (a0_0 == 3) = true then (
    (F178 N (a0_2, a0_3, (a0_4.1, a0_4.2), a0_5, a0_6, a0_7, a0_8, h)).bind fun (x20, _) =>
    (if (x20 == 0) = true then (
    some ((decide (a0_2 < 8)), h))
    else (
    some (false, h))).bind fun (b21, h22) =>
    (if b21 = true then (
    some ((a0_1 == 0), h22))
    else (
    some (false, h22))).bind fun (b23, h24) =>
    (if b23 = true then (
    (slen a0_9).bind fun n27 =>
    some ((n27 == 0), h24))
    else (
    some (false, h24))).bind fun (b25, h26) =>
    (if b25 = true then (
    (slen a0_10).bind fun n30 =>
    some ((n30 == 0), h26))
    else (
    some (false, h26))).bind fun (b28, h29) =>
    some (b28, h29))
    else (
    (if (a0_0 == 4) = true then (
    (if x1 = true then (
    some ((decide (a0_1 ≥ 1)), h))
    else (
    some (false, h))).bind fun (b31, h32) =>
    (if b31 = true then (
    some ((decide (a0_1 ≤ 9)), h32))
    else (
    some (false, h32))).bind fun (b33, h34) =>
    (if b33 = true then (
    (slen a0_9).bind fun n37 =>
    some ((n37 == 0), h34))
    else (
    some (false, h34))).bind fun (b35, h36) =>
    (if b35 = true then (
    (slen a0_10).bind fun n40 =>
    some ((n40 == 0), h36))
    else (
    some (false, h36))).bind fun (b38, h39) =>
    some (b38, h39))
    else (
    (if (a0_0 == 5) = true then (
    (if x1 = true then (
    some ((a0_1 == 0), h))
    else (
    some (false, h))).bind fun (b41, h42) =>
    (if b41 = true then (
    (slen a0_10).bind fun n45 =>
    some ((n45 == 0), h42))
    else (
    some (false, h42))).bind fun (b43, h44) =>
    some (b43, h44))
    else (
    (if (a0_0 == 6) = true then (
    (if x1 = true then (
    some ((a0_1 == 0), h))
    else (
    some (false, h))).bind fun (b46, h47) =>
    (if b46 = true then (
    (slen a0_10).bind fun n50 =>
    some ((decide (n50 ≤ 1)), h47))
    else (
    some (false, h47))).bind fun (b48, h49) =>
    some (b48, h49))
    else (
    some (false, h)))))))))))))
abbrev ks169 : List SK := [.agg [(.int .i64), (.int .i64), (.int .i64), (.int .i64), (.cplx .f64), .str, (.int .i64), (.int .i64), .ref, .ref, .ref], .one (.int .i64)]
abbrev rs169 : List SK := [.one .bool]
noncomputable def e169 (N : Nat) : Env := ⟨Tryz.prog, 140, inTab [2], inTab [], natTab [(2, 2), (6, 2), (10, 2), (16, 2), (21, 2), (27, 2), (36, 2), (41, 2), (47, 2), (53, 2), (60, 2), (65, 2), (66, 2), (71, 2), (76, 2), (82, 2), (91, 2), (96, 2), (101, 2), (107, 2), (116, 2), (121, 2), (130, 2), (135, 2)], inTab [], calTab [(8, .ro (mkFun ks8 rs8 (F8 N N))), (178, .ro (mkFun ks178 rs178 (F178 N)))], altTab [], loopTab [], natTab []⟩
theorem fine169 (N : Nat) : Fine (e169 N) N 169 Tryz.f169 ks169 rs169 (F169 N) :=
  ⟨Tryz.func169, by kernel_rfl, by kernel_rfl, by kernel_rfl, loops_of trivial, by kernel_rfl, by kernel_rfl, fun _ => by kernel_rfl⟩
theorem good169 (N : Nat) : Go.L.Good (e169 N) := good_of ⟨gd8 N N, ⟨gd178 N, trivial⟩⟩
theorem gd169 (N : Nat) : CalOk Tryz.prog 169 (.ro (mkFun ks169 rs169 (F169 N))) := mkFun_ro (fine169 N) (good169 N) (by kernel_rfl)

/-! ### 170: carouselref05.has -/
noncomputable def L170_0 (N : Nat) : Nat → V × Int × Int × H → Option ((H) ⊕ (Bool × H))
  | 0, _ => none
  | n + 1, (x8, x9, x10, h11) =>
    (slen x8).bind fun n12 =>
    (if (decide (x10 < n12)) = true then (
    (sidx x8 x10 1).bind fun q13 =>
    (L.asInt .i64 (rd h11 q13 0)).bind fun x14 =>
    (if (x14 == x9) = true then (
    some (.inr (true, h11)))
    else (
    L170_0 N n (x8, x9, (IntKind.i64.wrap (x10 + 1)), h11))))
    else (
    some (.inl h11)))
noncomputable def F170 (N : Nat) : V × Int × H → Option (Bool × H)
  | (a0, a1, h) =>
    (L170_0 N N (a0, a1, 0, h)).bind fun o15 => match o15 with
    | .inl h16 => (
    some (false, h16))
    | .inr (x17, h18) => (
    some (x17, h18))
abbrev ks170 : List SK := [.one .ref, .one (.int .i64)]
abbrev rs170 : List SK := [.one .bool]
noncomputable def e170 (N : Nat) : Env := ⟨Tryz.prog, 18, inTab [], inTab [], natTab [], inTab [], calTab [], altTab [], loopTab [(2, ⟨⟨.normal, [0, 1, 5], [.one .ref, .one (.int .i64), .one (.int .i64)], [], []⟩, [⟨(.exit 0), [], [], [], []⟩, ⟨.ret, [4], [.one .bool], [], []⟩], L170_0 N⟩)], natTab []⟩
theorem l170_0 (N : Nat) : ∀ A, (e170 N).lp (lid (loopAt Tryz.f170 0)) = some A → LoopOk (e170 N) N (loopAt Tryz.f170 0) A :=
  loopOk_of (A := ⟨⟨.normal, [0, 1, 5], [.one .ref, .one (.int .i64), .one (.int .i64)], [], []⟩, [⟨(.exit 0), [], [], [], []⟩, ⟨.ret, [4], [.one .bool], [], []⟩], L170_0 N⟩) (by kernel_rfl) (fun _ => rfl) (fun _ _ => by kernel_rfl)
theorem fine170 (N : Nat) : Fine (e170 N) N 170 Tryz.f170 ks170 rs170 (F170 N) :=
  ⟨Tryz.func170, by kernel_rfl, by kernel_rfl, by kernel_rfl, loops_of ⟨l170_0 N, trivial⟩, by kernel_rfl, by kernel_rfl, fun _ => by kernel_rfl⟩
theorem good170 (N : Nat) : Go.L.Good (e170 N) := good_of trivial
theorem gd170 (N : Nat) : CalOk Tryz.prog 170 (.ro (mkFun ks170 rs170 (F170 N))) := mkFun_ro (fine170 N) (good170 N) (by kernel_rfl)

/-! ### 171: carouselref05.kids -/
noncomputable def F171 (N : Nat) : Int × Int × Int × Int × (Nat × Nat) × ByteArray × Int × Int × V × V × V × H → Option (V × H)
  | (a0_0, a0_1, a0_2, a0_3, a0_4, a0_5, a0_6, a0_7, a0_8, a0_9, a0_10, h) =>
    (scells h a0_9 11).bind fun cs3 =>
    (happ h .nils 11 (snlen a0_9) cs3).bind fun (v1, h2) =>
    (scells h2 a0_10 11).bind fun cs6 =>
    (happ h2 v1 11 (snlen a0_10) cs6).bind fun (v4, h5) =>
    some (v4, h5)
abbrev ks171 : List SK := [.agg [(.int .i64), (.int .i64), (.int .i64), (.int .i64), (.cplx .f64), .str, (.int .i64), (.int .i64), .ref, .ref, .ref]]
abbrev rs171 : List SK := [.one .ref]
noncomputable def e171 (N : Nat) : Env := ⟨Tryz.prog, 12, inTab [1], inTab [], natTab [(1, 1), (5, 1), (9, 1)], inTab [], calTab [], altTab [], loopTab [], natTab []⟩
theorem fine171 (N : Nat) : Fine (e171 N) N 171 Tryz.f171 ks171 rs171 (F171 N) :=
  ⟨Tryz.func171, by kernel_rfl, by kernel_rfl, by kernel_rfl, loops_of trivial, by kernel_rfl, by kernel_rfl, fun _ => by kernel_rfl⟩
theorem good171 (N : Nat) : Go.L.Good (e171 N) := good_of trivial
theorem gd171 (N : Nat) : CalOk Tryz.prog 171 (.full (mkFun ks171 rs171 (F171 N))) := mkFun_good (fine171 N) (good171 N)

/-! ### 114: carouselref05.walk -/
noncomputable def L114_0 (N : Nat) (rec : Int × Int × Int × Int × (Nat × Nat) × ByteArray × Int × Int × V × V × V × Int × Int × V × Int × H → Option (Int × V × Int × H)) : Nat → Int × Int × V × Int × Int × V × Int × V × H → Option ((Int × V × Int × V × H) ⊕ (Int × Int × V × H))
  | 0, _ => none
  | n + 1, (x60, x61, x62, x63, x64, x65, x66, x67, h68) =>
    (slen x62).bind fun n69 =>
    (if (decide (x63 < n69)) = true then (
    (sidx x62 x63 11).bind fun q70 =>
    (L.asInt .i64 (rd h68 q70 0)).bind fun x71 =>
    (L.asInt .i64 (rd h68 q70 1)).bind fun x72 =>
    (L.asInt .i64 (rd h68 q70 2)).bind fun x73 =>
    (L.asInt .i64 (rd h68 q70 3)).bind fun x74 =>
    (L.asCplx .f64 (rd h68 q70 4)).bind fun x75 =>
    (L.asStr (rd h68 q70 5)).bind fun x76 =>
    (L.asInt .i64 (rd h68 q70 6)).bind fun x77 =>
    (L.asInt .i64 (rd h68 q70 7)).bind fun x78 =>
    ((rd h68 q70 8)).bind fun x79 =>
    ((rd h68 q70 9)).bind fun x80 =>
    ((rd h68 q70 10)).bind fun x81 =>
    (rec (x71, x72, x73, x74, (x75.1, x75.2), x76, x77, x78, x79, x80, x81, x60, x64, x65, (IntKind.i64.wrap (x61 + 1)), h68)).bind fun (x82, x83, x84, h85) =>
    (if (x84 != 0) = true then (
    some (.inr (x84, x82, x83, h85)))
    else (
    L114_0 N rec n (x60, x61, x62, (IntKind.i64.wrap (x63 + 1)), x82, x83, x66, x67, h85))))
    else (
    some (.inl (x64, x65, x66, x67, h68))))
noncomputable def F114 (N : Nat) : Nat → Int × Int × Int × Int × (Nat × Nat) × ByteArray × Int × Int × V × V × V × Int × Int × V × Int × H → Option (Int × V × Int × H)
  | 0, _ => none
  | d + 1, (a0_0, a0_1, a0_2, a0_3, a0_4, a0_5, a0_6, a0_7, a0_8, a0_9, a0_10, a1, a2_0, a2_1, a3, h) =>
    (if (decide (a2_0 ≥ 1024)) = true then (
    some (true, h))
    else (
    some ((decide (a3 ≥ 64)), h))).bind fun (b1, h2) =>
    (if b1 = true then (
    some (a2_0, a2_1, 34, h2))
    else (
    (F169 N (a0_0, a0_1, a0_2, a0_3, (a0_4.1, a0_4.2), a0_5, a0_6, a0_7, a0_8, a0_9, a0_10, a1, h2)).bind fun (x3, _) =>
    (if (!x3) = true then (
    some (true, h2))
    else (
    (if (a0_0 == 2) = true then (
    (F170 N (a2_1, a0_1, h2)).bind fun (x8, _) =>
    some (x8, h2))
    else (
    some (false, h2))).bind fun (b6, h7) =>
    some (b6, h7))).bind fun (b4, h5) =>
    (if b4 = true then (
    some (a2_0, a2_1, 50, h5))
    else (
    ((if (a0_0 == 2) = true then (
    (scells h5 a2_1 1).bind fun cs11 =>
    (happ h5 .nils 1 (snlen a2_1) cs11).bind fun (v9, h10) =>
    (happ h10 v9 1 1 [(.int .i64 a0_1)]).bind fun (v12, h13) =>
    (ck1 v12).bind fun _ =>
    some (a1, a3, a0_0, a0_1, a0_2, a0_3, (a0_4.1, a0_4.2), a0_5, a0_6, a0_7, a0_8, a0_9, a0_10, (IntKind.i64.wrap (a2_0 + 1)), v12, 0, .nils, h13))
    else (
    some (a1, a3, a0_0, a0_1, a0_2, a0_3, (a0_4.1, a0_4.2), a0_5, a0_6, a0_7, a0_8, a0_9, a0_10, (IntKind.i64.wrap (a2_0 + 1)), a2_1, 0, .nils, h5))) : Option (Int × Int × Int × Int × Int × Int × (Nat × Nat) × ByteArray × Int × Int × V × V × V × Int × V × Int × V × H)).bind fun (x14, x15, x16, x17, x18, x19, x20, x21, x22, x23, x24, x25, x26, x27, x28, x29, x30, h31) =>
    (F171 N (x16, x17, x18, x19, (x20.1, x20.2), x21, x22, x23, x24, x25, x26, h31)).bind fun (x32, h33) =>
    (L114_0 N (F114 N d) N (x14, x15, x32, 0, x27, x28, x29, x30, h33)).bind fun o86 => match o86 with
    | .inl (x87, x88, x89, x90, h91) => (
    some (x87, x88, 0, h91))
    | .inr (x92, x93, x94, h95) => (
    some (x93, x94, x92, h95))))))
abbrev ks114 : List SK := [.agg [(.int .i64), (.int .i64), (.int .i64), (.int .i64), (.cplx .f64), .str, (.int .i64), (.int .i64), .ref, .ref, .ref], .one (.int .i64), .agg [(.int .i64), .ref], .one (.int .i64)]
abbrev rs114 : List SK := [.agg [(.int .i64), .ref], .one (.int .i64)]
noncomputable def e114 (N d : Nat) : Env := ⟨Tryz.prog, 83, inTab [4, 6, 8, 13, 54], inTab [], natTab [(4, 4), (6, 6), (8, 8), (13, 13), (15, 6), (28, 4), (32, 6), (34, 4), (40, 6), (43, 6), (44, 4), (48, 6), (52, 4), (56, 6)], inTab [], calTab [(169, .ro (mkFun ks169 rs169 (F169 N))), (170, .ro (mkFun ks170 rs170 (F170 N))), (171, .full (mkFun ks171 rs171 (F171 N))), (114, .full (mkFun ks114 rs114 (F114 N d)))], altTab [(458798, [⟨.normal, [1, 3, 4, 6, 8], [.one (.int .i64), .one (.int .i64), .lp 4 0, .lp 6 0, .lp 8 0], [4, 6, 8], [.cells [(.int .i64), (.int .i64), (.int .i64), (.int .i64), (.cplx .f64), .str, (.int .i64), (.int .i64), .ref, .ref, .ref], .cells [(.int .i64), .ref], .cells [(.int .i64), .ref]]⟩])], loopTab [(12, ⟨⟨.normal, [1, 3, 6, 8, 11, 12], [.one (.int .i64), .one (.int .i64), .lp 6 0, .lp 8 0, .one .ref, .one (.int .i64)], [6, 8], [.cells [(.int .i64), .ref], .cells [(.int .i64), .ref]]⟩, [⟨(.exit 0), [6, 8], [.lp 6 0, .lp 8 0], [6, 8], [.cells [(.int .i64), .ref], .cells [(.int .i64), .ref]]⟩, ⟨.ret, [8, 9], [.lp 8 0, .one (.int .i64)], [8], [.cells [(.int .i64), .ref]]⟩], L114_0 N (F114 N d)⟩)], natTab []⟩
theorem l114_0 (N d : Nat) : ∀ A, (e114 N d).lp (lid (loopAt Tryz.f114 0)) = some A → LoopOk (e114 N d) N (loopAt Tryz.f114 0) A :=
  loopOk_of (A := ⟨⟨.normal, [1, 3, 6, 8, 11, 12], [.one (.int .i64), .one (.int .i64), .lp 6 0, .lp 8 0, .one .ref, .one (.int .i64)], [6, 8], [.cells [(.int .i64), .ref], .cells [(.int .i64), .ref]]⟩, [⟨(.exit 0), [6, 8], [.lp 6 0, .lp 8 0], [6, 8], [.cells [(.int .i64), .ref], .cells [(.int .i64), .ref]]⟩, ⟨.ret, [8, 9], [.lp 8 0, .one (.int .i64)], [8], [.cells [(.int .i64), .ref]]⟩], L114_0 N (F114 N d)⟩) (by kernel_rfl) (fun _ => rfl) (fun _ _ => by kernel_rfl)
theorem fine114 (N d : Nat) : Fine (e114 N d) N 114 Tryz.f114 ks114 rs114 (F114 N (d + 1)) :=
  ⟨Tryz.func114, by kernel_rfl, by kernel_rfl, by kernel_rfl, loops_of ⟨l114_0 N d, trivial⟩, by kernel_rfl, by kernel_rfl, fun _ => by kernel_rfl⟩
theorem gd114 (N : Nat) : ∀ d, CalOk Tryz.prog 114 (.full (mkFun ks114 rs114 (F114 N d)))
  | 0 => fun vs h s he => by obtain ⟨t, _, he⟩ := Option.bind_eq_some_iff.1 he; cases he
  | d + 1 => mkFun_good (fine114 N d) (good_of ⟨gd169 N, ⟨gd170 N, ⟨gd171 N, ⟨gd114 N d, trivial⟩⟩⟩⟩)
theorem good114 (N d : Nat) : Go.L.Good (e114 N d) := good_of ⟨gd169 N, ⟨gd170 N, ⟨gd171 N, ⟨gd114 N d, trivial⟩⟩⟩⟩

/-! ### 54: carouselref05.Check -/
noncomputable def F54 (N : Nat) : Int × Int × Int × Int × (Nat × Nat) × ByteArray × Int × Int × V × V × V × Int × H → Option (Int × H)
  | (a0_0, a0_1, a0_2, a0_3, a0_4, a0_5, a0_6, a0_7, a0_8, a0_9, a0_10, a1, h) =>
    (F114 N N (a0_0, a0_1, a0_2, a0_3, (a0_4.1, a0_4.2), a0_5, a0_6, a0_7, a0_8, a0_9, a0_10, a1, 0, .nils, 0, h)).bind fun (x1, x2, x3, h4) =>
    some (x3, h4)
abbrev ks54 : List SK := [.agg [(.int .i64), (.int .i64), (.int .i64), (.int .i64), (.cplx .f64), .str, (.int .i64), (.int .i64), .ref, .ref, .ref], .one (.int .i64)]
abbrev rs54 : List SK := [.one (.int .i64)]
noncomputable def e54 (N : Nat) : Env := ⟨Tryz.prog, 15, inTab [2, 5], inTab [], natTab [(2, 2), (5, 5)], inTab [], calTab [(114, .full (mkFun ks114 rs114 (F114 N N)))], altTab [], loopTab [], natTab []⟩
theorem fine54 (N : Nat) : Fine (e54 N) N 54 Tryz.f54 ks54 rs54 (F54 N) :=
  ⟨Tryz.func54, by kernel_rfl, by kernel_rfl, by kernel_rfl, loops_of trivial, by kernel_rfl, by kernel_rfl, fun _ => by kernel_rfl⟩
theorem good54 (N : Nat) : Go.L.Good (e54 N) := good_of ⟨gd114 N N, trivial⟩
theorem gd54 (N : Nat) : CalOk Tryz.prog 54 (.full (mkFun ks54 rs54 (F54 N))) := mkFun_good (fine54 N) (good54 N)

/-! ### 115: carouselref05.SameAll -/
noncomputable def L115_0 (N : Nat) : Nat → V × V × Int × H → Option (H)
  | 0, _ => none
  | n + 1, (x32, x33, x34, h35) =>
    (slen x32).bind fun n36 =>
    (if (decide (x34 < n36)) = true then (
    (sidx x32 x34 11).bind fun q37 =>
    (L.asInt .i64 (rd h35 q37 0)).bind fun x38 =>
    (L.asInt .i64 (rd h35 q37 1)).bind fun x39 =>
    (L.asInt .i64 (rd h35 q37 2)).bind fun x40 =>
    (L.asInt .i64 (rd h35 q37 3)).bind fun x41 =>
    (L.asCplx .f64 (rd h35 q37 4)).bind fun x42 =>
    (L.asStr (rd h35 q37 5)).bind fun x43 =>
    (L.asInt .i64 (rd h35 q37 6)).bind fun x44 =>
    (L.asInt .i64 (rd h35 q37 7)).bind fun x45 =>
    ((rd h35 q37 8)).bind fun x46 =>
    ((rd h35 q37 9)).bind fun x47 =>
    ((rd h35 q37 10)).bind fun x48 =>
    (sidx x33 x34 11).bind fun q49 =>
    (L.asInt .i64 (rd h35 q49 0)).bind fun x50 =>
    (L.asInt .i64 (rd h35 q49 1)).bind fun x51 =>
    (L.asInt .i64 (rd h35 q49 2)).bind fun x52 =>
    (L.asInt .i64 (rd h35 q49 3)).bind fun x53 =>
    (L.asCplx .f64 (rd h35 q49 4)).bind fun x54 =>
    (L.asStr (rd h35 q49 5)).bind fun x55 =>
    (L.asInt .i64 (rd h35 q49 6)).bind fun x56 =>
    (L.asInt .i64 (rd h35 q49 7)).bind fun x57 =>
    ((rd h35 q49 8)).bind fun x58 =>
    ((rd h35 q49 9)).bind fun x59 =>
    ((rd h35 q49 10)).bind fun x60 =>
    none)
    else (
    some h35))
noncomputable def F115 (N : Nat) : V × V × H → Option (Bool × H)
  | (a0, a1, h) =>
    (slen a0).bind fun n1 =>
    (slen a1).bind fun n2 =>
    (if (n1 != n2) = true then (
    some (false, h))
    else (
    (L115_0 N N (a0, a1, 0, h)).bind fun h61 =>
    some (true, h61)))
abbrev ks115 : List SK := [.one .ref, .one .ref]
abbrev rs115 : List SK := [.one .bool]
noncomputable def e115 (N : Nat) : Env := ⟨Tryz.prog, 27, inTab [], inTab [], natTab [], inTab [], calTab [], altTab [], loopTab [(4, ⟨⟨.normal, [0, 1, 5], [.one .ref, .one .ref, .one (.int .i64)], [], []⟩, [⟨(.exit 0), [], [], [], []⟩], L115_0 N⟩)], natTab []⟩
theorem l115_0 (N : Nat) : ∀ A, (e115 N).lp (lid (loopAt Tryz.f115 0)) = some A → LoopOk (e115 N) N (loopAt Tryz.f115 0) A :=
  loopOk_of (A := ⟨⟨.normal, [0, 1, 5], [.one .ref, .one .ref, .one (.int .i64)], [], []⟩, [⟨(.exit 0), [], [], [], []⟩], L115_0 N⟩) (by kernel_rfl) (fun _ => rfl) (fun _ _ => by kernel_rfl)
theorem fine115 (N : Nat) : Fine (e115 N) N 115 Tryz.f115 ks115 rs115 (F115 N) :=
  ⟨Tryz.func115, by kernel_rfl, by kernel_rfl, by kernel_rfl, loops_of ⟨l115_0 N, trivial⟩, by kernel_rfl, by kernel_rfl, fun _ => by kernel_rfl⟩
theorem good115 (N : Nat) : Go.L.Good (e115 N) := good_of trivial
theorem gd115 (N : Nat) : CalOk Tryz.prog 115 (.full (mkFun ks115 rs115 (F115 N))) := mkFun_good (fine115 N) (good115 N)

/-! ### 55: carouselref05.Same -/
noncomputable def F55 (N : Nat) : Int × Int × Int × Int × (Nat × Nat) × ByteArray × Int × Int × V × V × V × Int × Int × Int × Int × (Nat × Nat) × ByteArray × Int × Int × V × V × V × H → Option (Bool × H)
  | (a0_0, a0_1, a0_2, a0_3, a0_4, a0_5, a0_6, a0_7, a0_8, a0_9, a0_10, a1_0, a1_1, a1_2, a1_3, a1_4, a1_5, a1_6, a1_7, a1_8, a1_9, a1_10, h) =>
    (if (a0_0 != a1_0) = true then (
    some (true, h))
    else (
    some ((a0_1 != a1_1), h))).bind fun (b1, h2) =>
    (if b1 = true then (
    some (true, h2))
    else (
    (F8 N N (a0_2, a0_3, (a0_4.1, a0_4.2), a0_5, a0_6, a0_7, a0_8, a1_2, a1_3, (a1_4.1, a1_4.2), a1_5, a1_6, a1_7, a1_8, h2)).bind fun (x5, _) =>
    some ((!x5), h2))).bind fun (b3, h4) =>
    (if b3 = true then (
    some (true, h4))
    else (
    (slen a0_9).bind fun n8 =>
    (slen a1_9).bind fun n9 =>
    some ((n8 != n9), h4))).bind fun (b6, h7) =>
    (if b6 = true then (
    some (true, h7))
    else (
    (slen a0_10).bind fun n12 =>
    (slen a1_10).bind fun n13 =>
    some ((n12 != n13), h7))).bind fun (b10, h11) =>
    (if b10 = true then (
    some (false, h11))
    else (
    (F115 N (a0_9, a1_9, h11)).bind fun (x14, h15) =>
    (if x14 = true then (
    (F115 N (a0_10, a1_10, h15)).bind fun (x18, h19) =>
    some (x18, h19))
    else (
    some (false, h15))).bind fun (b16, h17) =>
    some (b16, h17)))
abbrev ks55 : List SK := [.agg [(.int .i64), (.int .i64), (.int .i64), (.int .i64), (.cplx .f64), .str, (.int .i64), (.int .i64), .ref, .ref, .ref], .agg [(.int .i64), (.int .i64), (.int .i64), (.int .i64), (.cplx .f64), .str, (.int .i64), (.int .i64), .ref, .ref, .ref]]
abbrev rs55 : List SK := [.one .bool]
noncomputable def e55 (N : Nat) : Env := ⟨Tryz.prog, 55, inTab [2, 3], inTab [], natTab [(2, 2), (3, 3), (5, 2), (7, 3), (11, 2), (13, 3), (18, 2), (20, 3), (26, 2), (29, 3), (35, 2), (38, 3), (43, 2), (45, 3), (49, 2), (51, 3)], inTab [], calTab [(8, .ro (mkFun ks8 rs8 (F8 N N))), (115, .full (mkFun ks115 rs115 (F115 N)))], altTab [], loopTab [], natTab []⟩
theorem fine55 (N : Nat) : Fine (e55 N) N 55 Tryz.f55 ks55 rs55 (F55 N) :=
  ⟨Tryz.func55, by kernel_rfl, by kernel_rfl, by kernel_rfl, loops_of trivial, by kernel_rfl, by kernel_rfl, fun _ => by kernel_rfl⟩
theorem good55 (N : Nat) : Go.L.Good (e55 N) := good_of ⟨gd8 N N, ⟨gd115 N, trivial⟩⟩
theorem gd55 (N : Nat) : CalOk Tryz.prog 55 (.full (mkFun ks55 rs55 (F55 N))) := mkFun_good (fine55 N) (good55 N)

/-! ### 31: carouselref10.patterned -/
noncomputable def F31 (N : Nat) : Int × Int × Int × Int × (Nat × Nat) × ByteArray × Int × Int × V × V × V × Int × Int × Int × Int × (Nat × Nat) × ByteArray × Int × Int × V × V × V × H → Option (Bool × H)
  | (a0_0, a0_1, a0_2, a0_3, a0_4, a0_5, a0_6, a0_7, a0_8, a0_9, a0_10, a1_0, a1_1, a1_2, a1_3, a1_4, a1_5, a1_6, a1_7, a1_8, a1_9, a1_10, h) =>
    (F54 N (a0_0, a0_1, a0_2, a0_3, (a0_4.1, a0_4.2), a0_5, a0_6, a0_7, a0_8, a0_9, a0_10, 32, h)).bind fun (x1, h2) =>
    (if (x1 != 0) = true then (
    (F54 N (a1_0, a1_1, a1_2, a1_3, (a1_4.1, a1_4.2), a1_5, a1_6, a1_7, a1_8, a1_9, a1_10, 32, h2)).bind fun (x3, h4) =>
    some ((x3 == x1), h4))
    else (
    (F55 N (a0_0, a0_1, a0_2, a0_3, (a0_4.1, a0_4.2), a0_5, a0_6, a0_7, a0_8, a0_9, a0_10, a1_0, a1_1, a1_2, a1_3, (a1_4.1, a1_4.2), a1_5, a1_6, a1_7, a1_8, a1_9, a1_10, h2)).bind fun (x5, h6) =>
    some (x5, h6)))
abbrev ks31 : List SK := [.agg [(.int .i64), (.int .i64), (.int .i64), (.int .i64), (.cplx .f64), .str, (.int .i64), (.int .i64), .ref, .ref, .ref], .agg [(.int .i64), (.int .i64), (.int .i64), (.int .i64), (.cplx .f64), .str, (.int .i64), (.int .i64), .ref, .ref, .ref]]
abbrev rs31 : List SK := [.one .bool]
noncomputable def e31 (N : Nat) : Env := ⟨Tryz.prog, 17, inTab [2, 3], inTab [], natTab [(2, 2), (3, 3)], inTab [], calTab [(54, .full (mkFun ks54 rs54 (F54 N))), (55, .full (mkFun ks55 rs55 (F55 N)))], altTab [], loopTab [], natTab []⟩
theorem fine31 (N : Nat) : Fine (e31 N) N 31 Tryz.f31 ks31 rs31 (F31 N) :=
  ⟨Tryz.func31, by kernel_rfl, by kernel_rfl, by kernel_rfl, loops_of trivial, by kernel_rfl, by kernel_rfl, fun _ => by kernel_rfl⟩
theorem good31 (N : Nat) : Go.L.Good (e31 N) := good_of ⟨gd54 N, ⟨gd55 N, trivial⟩⟩
theorem gd31 (N : Nat) : CalOk Tryz.prog 31 (.full (mkFun ks31 rs31 (F31 N))) := mkFun_good (fine31 N) (good31 N)

/-! ### 32: carouselref03.SameAll -/
noncomputable def L32_0 (N : Nat) : Nat → V × V × Int × H → Option ((H) ⊕ (Bool × H))
  | 0, _ => none
  | n + 1, (x25, x26, x27, h28) =>
    (slen x25).bind fun n29 =>
    (if (decide (x27 < n29)) = true then (
    (sidx x25 x27 7).bind fun q30 =>
    (L.asInt .i64 (rd h28 q30 0)).bind fun x31 =>
    (L.asInt .i64 (rd h28 q30 1)).bind fun x32 =>
    (L.asCplx .f64 (rd h28 q30 2)).bind fun x33 =>
    (L.asStr (rd h28 q30 3)).bind fun x34 =>
    (L.asInt .i64 (rd h28 q30 4)).bind fun x35 =>
    (L.asInt .i64 (rd h28 q30 5)).bind fun x36 =>
    ((rd h28 q30 6)).bind fun x37 =>
    (sidx x26 x27 7).bind fun q38 =>
    (L.asInt .i64 (rd h28 q38 0)).bind fun x39 =>
    (L.asInt .i64 (rd h28 q38 1)).bind fun x40 =>
    (L.asCplx .f64 (rd h28 q38 2)).bind fun x41 =>
    (L.asStr (rd h28 q38 3)).bind fun x42 =>
    (L.asInt .i64 (rd h28 q38 4)).bind fun x43 =>
    (L.asInt .i64 (rd h28 q38 5)).bind fun x44 =>
    ((rd h28 q38 6)).bind fun x45 =>
    (F8 N N (x31, x32, (x33.1, x33.2), x34, x35, x36, x37, x39, x40, (x41.1, x41.2), x42, x43, x44, x45, h28)).bind fun (x46, _) =>
    (if (!x46) = true then (
    some (.inr (false, h28)))
    else (
    L32_0 N n (x25, x26, (IntKind.i64.wrap (x27 + 1)), h28))))
    else (
    some (.inl h28)))
noncomputable def F32 (N : Nat) : V × V × H → Option (Bool × H)
  | (a0, a1, h) =>
    (slen a0).bind fun n1 =>
    (slen a1).bind fun n2 =>
    (if (n1 != n2) = true then (
    some (false, h))
    else (
    (L32_0 N N (a0, a1, 0, h)).bind fun o47 => match o47 with
    | .inl h48 => (
    some (true, h48))
    | .inr (x49, h50) => (
    some (x49, h50))))
abbrev ks32 : List SK := [.one .ref, .one .ref]
abbrev rs32 : List SK := [.one .bool]
noncomputable def e32 (N : Nat) : Env := ⟨Tryz.prog, 27, inTab [], inTab [], natTab [], inTab [], calTab [(8, .ro (mkFun ks8 rs8 (F8 N N)))], altTab [], loopTab [(4, ⟨⟨.normal, [0, 1, 5], [.one .ref, .one .ref, .one (.int .i64)], [], []⟩, [⟨(.exit 0), [], [], [], []⟩, ⟨.ret, [4], [.one .bool], [], []⟩], L32_0 N⟩)], natTab []⟩
theorem l32_0 (N : Nat) : ∀ A, (e32 N).lp (lid (loopAt Tryz.f32 0)) = some A → LoopOk (e32 N) N (loopAt Tryz.f32 0) A :=
  loopOk_of (A := ⟨⟨.normal, [0, 1, 5], [.one .ref, .one .ref, .one (.int .i64)], [], []⟩, [⟨(.exit 0), [], [], [], []⟩, ⟨.ret, [4], [.one .bool], [], []⟩], L32_0 N⟩) (by kernel_rfl) (fun _ => rfl) (fun _ _ => by kernel_rfl)
theorem fine32 (N : Nat) : Fine (e32 N) N 32 Tryz.f32 ks32 rs32 (F32 N) :=
  ⟨Tryz.func32, by kernel_rfl, by kernel_rfl, by kernel_rfl, loops_of ⟨l32_0 N, trivial⟩, by kernel_rfl, by kernel_rfl, fun _ => by kernel_rfl⟩
theorem good32 (N : Nat) : Go.L.Good (e32 N) := good_of ⟨gd8 N N, trivial⟩
theorem gd32 (N : Nat) : CalOk Tryz.prog 32 (.ro (mkFun ks32 rs32 (F32 N))) := mkFun_ro (fine32 N) (good32 N) (by kernel_rfl)

/-! ### 11: carouselref10.SameAsk -/
noncomputable def L11_0 (N : Nat) : Nat → Int × Int × Int × Int × (Nat × Nat) × ByteArray × Int × Int × V × Int × Int × (Nat × Nat) × ByteArray × Int × Int × V × V × Int × Int × Int × V × Int × Int × Int × (Nat × Nat) × ByteArray × Int × Int × V × Int × Int × (Nat × Nat) × ByteArray × Int × Int × V × V × Int × Int × Int × V × H → Option ((Int × Int × Int × (Nat × Nat) × ByteArray × Int × Int × V × Int × Int × (Nat × Nat) × ByteArray × Int × Int × V × V × Int × Int × Int × V × Int × Int × Int × (Nat × Nat) × ByteArray × Int × Int × V × Int × Int × (Nat × Nat) × ByteArray × Int × Int × V × V × Int × Int × Int × V × H) ⊕ (Bool × H))
  | 0, _ => none
  | n + 1, (x86, x87, x88, x89, x90, x91, x92, x93, x94, x95, x96, x97, x98, x99, x100, x101, x102, x103, x104, x105, x106, x107, x108, x109, x110, x111, x112, x113, x114, x115, x116, x117, x118, x119, x120, x121, x122, x123, x124, x125, x126, h127) =>
    (slen x102).bind fun n128 =>
    (if (decide (x86 < n128)) = true then (
    (sidx x102 x86 12).bind fun q129 =>
    (L.asInt .i64 (rd h127 (padd q129 11) 0)).bind fun x130 =>
    (sidx x122 x86 12).bind fun q131 =>
    (L.asInt .i64 (rd h127 (padd q131 11) 0)).bind fun x132 =>
    (if (x130 != x132) = true then (
    some (true, h127))
    else (
    (sidx x102 x86 12).bind fun q135 =>
    (L.asInt .i64 (rd h127 (padd q135 0) 0)).bind fun x136 =>
    (L.asInt .i64 (rd h127 (padd q135 0) 1)).bind fun x137 =>
    (L.asInt .i64 (rd h127 (padd q135 0) 2)).bind fun x138 =>
    (L.asInt .i64 (rd h127 (padd q135 0) 3)).bind fun x139 =>
    (L.asCplx .f64 (rd h127 (padd q135 0) 4)).bind fun x140 =>
    (L.asStr (rd h127 (padd q135 0) 5)).bind fun x141 =>
    (L.asInt .i64 (rd h127 (padd q135 0) 6)).bind fun x142 =>
    (L.asInt .i64 (rd h127 (padd q135 0) 7)).bind fun x143 =>
    ((rd h127 (padd q135 0) 8)).bind fun x144 =>
    ((rd h127 (padd q135 0) 9)).bind fun x145 =>
    ((rd h127 (padd q135 0) 10)).bind fun x146 =>
    (sidx x122 x86 12).bind fun q147 =>
    (L.asInt .i64 (rd h127 (padd q147 0) 0)).bind fun x148 =>
    (L.asInt .i64 (rd h127 (padd q147 0) 1)).bind fun x149 =>
    (L.asInt .i64 (rd h127 (padd q147 0) 2)).bind fun x150 =>
    (L.asInt .i64 (rd h127 (padd q147 0) 3)).bind fun x151 =>
    (L.asCplx .f64 (rd h127 (padd q147 0) 4)).bind fun x152 =>
    (L.asStr (rd h127 (padd q147 0) 5)).bind fun x153 =>
    (L.asInt .i64 (rd h127 (padd q147 0) 6)).bind fun x154 =>
    (L.asInt .i64 (rd h127 (padd q147 0) 7)).bind fun x155 =>
    ((rd h127 (padd q147 0) 8)).bind fun x156 =>
    ((rd h127 (padd q147 0) 9)).bind fun x157 =>
    ((rd h127 (padd q147 0) 10)).bind fun x158 =>
    (F31 N (x136, x137, x138, x139, (x140.1, x140.2), x141, x142, x143, x144, x145, x146, x148, x149, x150, x151, (x152.1, x152.2), x153, x154, x155, x156, x157, x158, h127)).bind fun (x159, h160) =>
    some ((!x159), h160))).bind fun (b133, h134) =>
    (if b133 = true then (
    some (.inr (false, h134)))
    else (
    L11_0 N n ((IntKind.i64.wrap (x86 + 1)), x87, x88, x89, (x90.1, x90.2), x91, x92, x93, x94, x95, x96, (x97.1, x97.2), x98, x99, x100, x101, x102, x103, x104, x105, x106, x107, x108, x109, (x110.1, x110.2), x111, x112, x113, x114, x115, x116, (x117.1, x117.2), x118, x119, x120, x121, x122, x123, x124, x125, x126, h134))))
    else (
    some (.inl (x87, x88, x89, (x90.1, x90.2), x91, x92, x93, x94, x95, x96, (x97.1, x97.2), x98, x99, x100, x101, x102, x103, x104, x105, x106, x107, x108, x109, (x110.1, x110.2), x111, x112, x113, x114, x115, x116, (x117.1, x117.2), x118, x119, x120, x121, x122, x123, x124, x125, x126, h127))))
noncomputable def F11 (N : Nat) : Int × Int × Int × (Nat × Nat) × ByteArray × Int × Int × V × Int × Int × (Nat × Nat) × ByteArray × Int × Int × V × V × Int × Int × Int × V × Int × Int × Int × (Nat × Nat) × ByteArray × Int × Int × V × Int × Int × (Nat × Nat) × ByteArray × Int × Int × V × V × Int × Int × Int × V × H → Option (Bool × H)
  | (a0_0, a0_1, a0_2, a0_3, a0_4, a0_5, a0_6, a0_7, a0_8, a0_9, a0_10, a0_11, a0_12, a0_13, a0_14, a0_15, a0_16, a0_17, a0_18, a0_19, a1_0, a1_1, a1_2, a1_3, a1_4, a1_5, a1_6, a1_7, a1_8, a1_9, a1_10, a1_11, a1_12, a1_13, a1_14, a1_15, a1_16, a1_17, a1_18, a1_19, h) =>
    (if (a0_0 != a1_0) = true then (
    some (true, h))
    else (
    some ((a0_16 != a1_16), h))).bind fun (b1, h2) =>
    (if b1 = true then (
    some (true, h2))
    else (
    some ((a0_17 != a1_17), h2))).bind fun (b3, h4) =>
    (if b3 = true then (
    some (true, h4))
    else (
    some ((a0_18 != a1_18), h4))).bind fun (b5, h6) =>
    (if b5 = true then (
    some (true, h6))
    else (
    (slen a0_15).bind fun n9 =>
    (slen a1_15).bind fun n10 =>
    some ((n9 != n10), h6))).bind fun (b7, h8) =>
    (if b7 = true then (
    some (false, h8))
    else (
    (L11_0 N N (0, a0_0, a0_1, a0_2, (a0_3.1, a0_3.2), a0_4, a0_5, a0_6, a0_7, a0_8, a0_9, (a0_10.1, a0_10.2), a0_11, a0_12, a0_13, a0_14, a0_15, a0_16, a0_17, a0_18, a0_19, a1_0, a1_1, a1_2, (a1_3.1, a1_3.2), a1_4, a1_5, a1_6, a1_7, a1_8, a1_9, (a1_10.1, a1_10.2), a1_11, a1_12, a1_13, a1_14, a1_15, a1_16, a1_17, a1_18, a1_19, h8)).bind fun o161 => match o161 with
    | .inl (x162, x163, x164, x165, x166, x167, x168, x169, x170, x171, x172, x173, x174, x175, x176, x177, x178, x179, x180, x181, x182, x183, x184, x185, x186, x187, x188, x189, x190, x191, x192, x193, x194, x195, x196, x197, x198, x199, x200, x201, h202) => (
    (F8 N N (x163, x164, (x165.1, x165.2), x166, x167, x168, x169, x183, x184, (x185.1, x185.2), x186, x187, x188, x189, h202)).bind fun (x203, _) =>
    (if x203 = true then (
    (F8 N N (x170, x171, (x172.1, x172.2), x173, x174, x175, x176, x190, x191, (x192.1, x192.2), x193, x194, x195, x196, h202)).bind fun (x206, _) =>
    some (x206, h202))
    else (
    some (false, h202))).bind fun (b204, h205) =>
    (if b204 = true then (
    (F32 N (x181, x201, h205)).bind fun (x209, _) =>
    some (x209, h205))
    else (
    some (false, h205))).bind fun (b207, h208) =>
    some (b207, h208))
    | .inr (x210, h211) => (
    some (x210, h211))))
abbrev ks11 : List SK := [.agg [(.int .i64), (.int .i64), (.int .i64), (.cplx .f64), .str, (.int .i64), (.int .i64), .ref, (.int .i64), (.int .i64), (.cplx .f64), .str, (.int .i64), (.int .i64), .ref, .ref, (.int .i64), (.int .i64), (.int .i64), .ref], .agg [(.int .i64), (.int .i64), (.int .i64), (.cplx .f64), .str, (.int .i64), (.int .i64), .ref, (.int .i64), (.int .i64), (.cplx .f64), .str, (.int .i64), (.int .i64), .ref, .ref, (.int .i64), (.int .i64), (.int .i64), .ref]]
abbrev rs11 : List SK := [.one .bool]
noncomputable def e11 (N : Nat) : Env := ⟨Tryz.prog, 96, inTab [2, 3], inTab [], natTab [(2, 2), (3, 3), (6, 2), (8, 3), (12, 2), (14, 3), (19, 2), (21, 3), (26, 2), (28, 3), (33, 2), (36, 3), (42, 2), (48, 2), (54, 3), (62, 2), (68, 3), (77, 2), (79, 3), (83, 2), (85, 3), (90, 2), (92, 3)], inTab [], calTab [(31, .full (mkFun ks31 rs31 (F31 N))), (8, .ro (mkFun ks8 rs8 (F8 N N))), (32, .ro (mkFun ks32 rs32 (F32 N)))], altTab [], loopTab [(4, ⟨⟨.normal, [2, 3, 5], [.lp 2 0, .lp 3 0, .one (.int .i64)], [2, 3], [.cells [(.int .i64), (.int .i64), (.int .i64), (.cplx .f64), .str, (.int .i64), (.int .i64), .ref, (.int .i64), (.int .i64), (.cplx .f64), .str, (.int .i64), (.int .i64), .ref, .ref, (.int .i64), (.int .i64), (.int .i64), .ref], .cells [(.int .i64), (.int .i64), (.int .i64), (.cplx .f64), .str, (.int .i64), (.int .i64), .ref, (.int .i64), (.int .i64), (.cplx .f64), .str, (.int .i64), (.int .i64), .ref, .ref, (.int .i64), (.int .i64), (.int .i64), .ref]]⟩, [⟨(.exit 0), [2, 3], [.lp 2 0, .lp 3 0], [2, 3], [.cells [(.int .i64), (.int .i64), (.int .i64), (.cplx .f64), .str, (.int .i64), (.int .i64), .ref, (.int .i64), (.int .i64), (.cplx .f64), .str, (.int .i64), (.int .i64), .ref, .ref, (.int .i64), (.int .i64), (.int .i64), .ref], .cells [(.int .i64), (.int .i64), (.int .i64), (.cplx .f64), .str, (.int .i64), (.int .i64), .ref, (.int .i64), (.int .i64), (.cplx .f64), .str, (.int .i64), (.int .i64), .ref, .ref, (.int .i64), (.int .i64), (.int .i64), .ref]]⟩, ⟨.ret, [4], [.one .bool], [], []⟩], L11_0 N⟩)], natTab []⟩
theorem l11_0 (N : Nat) : ∀ A, (e11 N).lp (lid (loopAt Tryz.f11 0)) = some A → LoopOk (e11 N) N (loopAt Tryz.f11 0) A :=
  loopOk_of (A := ⟨⟨.normal, [2, 3, 5], [.lp 2 0, .lp 3 0, .one (.int .i64)], [2, 3], [.cells [(.int .i64), (.int .i64), (.int .i64), (.cplx .f64), .str, (.int .i64), (.int .i64), .ref, (.int .i64), (.int .i64), (.cplx .f64), .str, (.int .i64), (.int .i64), .ref, .ref, (.int .i64), (.int .i64), (.int .i64), .ref], .cells [(.int .i64), (.int .i64), (.int .i64), (.cplx .f64), .str, (.int .i64), (.int .i64), .ref, (.int .i64), (.int .i64), (.cplx .f64), .str, (.int .i64), (.int .i64), .ref, .ref, (.int .i64), (.int .i64), (.int .i64), .ref]]⟩, [⟨(.exit 0), [2, 3], [.lp 2 0, .lp 3 0], [2, 3], [.cells [(.int .i64), (.int .i64), (.int .i64), (.cplx .f64), .str, (.int .i64), (.int .i64), .ref, (.int .i64), (.int .i64), (.cplx .f64), .str, (.int .i64), (.int .i64), .ref, .ref, (.int .i64), (.int .i64), (.int .i64), .ref], .cells [(.int .i64), (.int .i64), (.int .i64), (.cplx .f64), .str, (.int .i64), (.int .i64), .ref, (.int .i64), (.int .i64), (.cplx .f64), .str, (.int .i64), (.int .i64), .ref, .ref, (.int .i64), (.int .i64), (.int .i64), .ref]]⟩, ⟨.ret, [4], [.one .bool], [], []⟩], L11_0 N⟩) (by kernel_rfl) (fun _ => rfl) (fun _ _ => by kernel_rfl)
theorem fine11 (N : Nat) : Fine (e11 N) N 11 Tryz.f11 ks11 rs11 (F11 N) :=
  ⟨Tryz.func11, by kernel_rfl, by kernel_rfl, by kernel_rfl, loops_of ⟨l11_0 N, trivial⟩, by kernel_rfl, by kernel_rfl, fun _ => by kernel_rfl⟩
theorem good11 (N : Nat) : Go.L.Good (e11 N) := good_of ⟨gd31 N, ⟨gd8 N N, ⟨gd32 N, trivial⟩⟩⟩
theorem gd11 (N : Nat) : CalOk Tryz.prog 11 (.full (mkFun ks11 rs11 (F11 N))) := mkFun_good (fine11 N) (good11 N)

/-! ### 116: code.named -/
noncomputable def F116 (N : Nat) : ByteArray × H → Option (Bool × H)
  | (a0, h) =>
    (F52 N (5, 0, (0, 0), a0, 0, 0, .nils, h)).bind fun (x1, h2) =>
    some ((x1 == 0), h2)
abbrev ks116 : List SK := [.one .str]
abbrev rs116 : List SK := [.one .bool]
noncomputable def e116 (N : Nat) : Env := ⟨Tryz.prog, 7, inTab [], inTab [], natTab [], inTab [], calTab [(52, .full (mkFun ks52 rs52 (F52 N)))], altTab [], loopTab [], natTab []⟩
theorem fine116 (N : Nat) : Fine (e116 N) N 116 Tryz.f116 ks116 rs116 (F116 N) :=
  ⟨Tryz.func116, by kernel_rfl, by kernel_rfl, by kernel_rfl, loops_of trivial, by kernel_rfl, by kernel_rfl, fun _ => by kernel_rfl⟩
theorem good116 (N : Nat) : Go.L.Good (e116 N) := good_of ⟨gd52 N, trivial⟩
theorem gd116 (N : Nat) : CalOk Tryz.prog 116 (.full (mkFun ks116 rs116 (F116 N))) := mkFun_good (fine116 N) (good116 N)

/-! ### 117: code.headed -/
noncomputable def L117_0 (N : Nat) : Nat → V × Int × Int × ByteArray × Int × Int × V × H → Option ((ByteArray × Int × Int × V × H) ⊕ (Bool × H))
  | 0, _ => none
  | n + 1, (x22, x23, x24, x25, x26, x27, x28, h29) =>
    (if (decide (x24 < x23)) = true then (
    (sidx x22 x24 4).bind fun q30 =>
    (L.asStr (rd h29 q30 0)).bind fun x31 =>
    (L.asInt .i64 (rd h29 q30 1)).bind fun x32 =>
    (L.asInt .i64 (rd h29 q30 2)).bind fun x33 =>
    ((rd h29 q30 3)).bind fun x34 =>
    (if ((x31).toList == (x25).toList) = true then (
    some (.inr (false, h29)))
    else (
    L117_0 N n (x22, x23, (IntKind.i64.wrap (x24 + 1)), x25, x26, x27, x28, h29))))
    else (
    some (.inl (x25, x26, x27, x28, h29))))
noncomputable def F117 (N : Nat) : ByteArray × V × Int × H → Option (Bool × H)
  | (a0_0, a0_1, a1, h) =>
    (sidx a0_1 a1 4).bind fun q1 =>
    (L.asStr (rd h q1 0)).bind fun x2 =>
    (L.asInt .i64 (rd h q1 1)).bind fun x3 =>
    (L.asInt .i64 (rd h q1 2)).bind fun x4 =>
    ((rd h q1 3)).bind fun x5 =>
    (slen a0_1).bind fun n6 =>
    (ssl 4 a0_1 0 a1).bind fun v7 =>
    (slen v7).bind fun n8 =>
    (L117_0 N N (v7, n8, 0, x2, x3, x4, x5, h)).bind fun o35 => match o35 with
    | .inl (x36, x37, x38, x39, h40) => (
    (F116 N (x36, h40)).bind fun (x41, h42) =>
    (if x41 = true then (
    some ((decide (x37 ≥ 0)), h42))
    else (
    some (false, h42))).bind fun (b43, h44) =>
    (if b43 = true then (
    some ((decide (x37 ≤ x38)), h44))
    else (
    some (false, h44))).bind fun (b45, h46) =>
    (if b45 = true then (
    some ((decide (x38 ≤ 32)), h46))
    else (
    some (false, h46))).bind fun (b47, h48) =>
    (if b47 = true then (
    (slen x39).bind fun n51 =>
    some ((decide (n51 ≥ 1)), h48))
    else (
    some (false, h48))).bind fun (b49, h50) =>
    (if b49 = true then (
    (slen x39).bind fun n54 =>
    some ((decide (n54 ≤ 1024)), h50))
    else (
    some (false, h50))).bind fun (b52, h53) =>
    some (b52, h53))
    | .inr (x55, h56) => (
    some (x55, h56))
abbrev ks117 : List SK := [.agg [.str, .ref], .one (.int .i64)]
abbrev rs117 : List SK := [.one .bool]
noncomputable def e117 (N : Nat) : Env := ⟨Tryz.prog, 60, inTab [2, 5, 7], inTab [], natTab [(2, 2), (5, 5), (7, 7), (8, 2), (13, 2), (22, 7), (24, 5), (28, 5), (32, 5), (37, 5), (39, 5), (44, 5), (49, 5), (55, 5)], inTab [], calTab [(116, .full (mkFun ks116 rs116 (F116 N)))], altTab [], loopTab [(3, ⟨⟨.normal, [5, 16, 17, 18], [.lp 5 0, .one .ref, .one (.int .i64), .one (.int .i64)], [5], [.cells [.str, (.int .i64), (.int .i64), .ref]]⟩, [⟨(.exit 0), [5], [.lp 5 0], [5], [.cells [.str, (.int .i64), (.int .i64), .ref]]⟩, ⟨.ret, [4], [.one .bool], [], []⟩], L117_0 N⟩)], natTab []⟩
theorem l117_0 (N : Nat) : ∀ A, (e117 N).lp (lid (loopAt Tryz.f117 0)) = some A → LoopOk (e117 N) N (loopAt Tryz.f117 0) A :=
  loopOk_of (A := ⟨⟨.normal, [5, 16, 17, 18], [.lp 5 0, .one .ref, .one (.int .i64), .one (.int .i64)], [5], [.cells [.str, (.int .i64), (.int .i64), .ref]]⟩, [⟨(.exit 0), [5], [.lp 5 0], [5], [.cells [.str, (.int .i64), (.int .i64), .ref]]⟩, ⟨.ret, [4], [.one .bool], [], []⟩], L117_0 N⟩) (by kernel_rfl) (fun _ => rfl) (fun _ _ => by kernel_rfl)
theorem fine117 (N : Nat) : Fine (e117 N) N 117 Tryz.f117 ks117 rs117 (F117 N) :=
  ⟨Tryz.func117, by kernel_rfl, by kernel_rfl, by kernel_rfl, loops_of ⟨l117_0 N, trivial⟩, by kernel_rfl, by kernel_rfl, fun _ => by kernel_rfl⟩
theorem good117 (N : Nat) : Go.L.Good (e117 N) := good_of ⟨gd116 N, trivial⟩
theorem gd117 (N : Nat) : CalOk Tryz.prog 117 (.full (mkFun ks117 rs117 (F117 N))) := mkFun_good (fine117 N) (good117 N)

/-! ### 236: code.same -/
noncomputable def F236 (N : Nat) : Int × Int × (Nat × Nat) × ByteArray × Int × Int × V × H → Option (Bool × H)
  | (a0_0, a0_1, a0_2, a0_3, a0_4, a0_5, a0_6, h) =>
    (if (a0_0 == 0) = true then (
    some ((a0_1 == 0), h))
    else (
    some (false, h))).bind fun (b1, h2) =>
    (if b1 = true then (
    some ((Op.floatEq .f64 a0_2.1 0 && Op.floatEq .f64 a0_2.2 0), h2))
    else (
    some (false, h2))).bind fun (b3, h4) =>
    (if b3 = true then (
    some (((a0_3).toList == ((ByteArray.mk #[])).toList), h4))
    else (
    some (false, h4))).bind fun (b5, h6) =>
    (if b5 = true then (
    some (((a0_4 == 0) && ((a0_5 == 0) && true)), h6))
    else (
    some (false, h6))).bind fun (b7, h8) =>
    (if b7 = true then (
    (slen a0_6).bind fun n11 =>
    some ((n11 == 0), h8))
    else (
    some (false, h8))).bind fun (b9, h10) =>
    some (b9, h10)
abbrev ks236 : List SK := [.agg [(.int .i64), (.int .i64), (.cplx .f64), .str, (.int .i64), (.int .i64), .ref]]
abbrev rs236 : List SK := [.one .bool]
noncomputable def e236 (N : Nat) : Env := ⟨Tryz.prog, 33, inTab [1], inTab [], natTab [(1, 1), (3, 1), (7, 1), (12, 1), (17, 1), (22, 1), (28, 1)], inTab [], calTab [], altTab [], loopTab [], natTab []⟩
theorem fine236 (N : Nat) : Fine (e236 N) N 236 Tryz.f236 ks236 rs236 (F236 N) :=
  ⟨Tryz.func236, by kernel_rfl, by kernel_rfl, by kernel_rfl, loops_of trivial, by kernel_rfl, by kernel_rfl, fun _ => by kernel_rfl⟩
theorem good236 (N : Nat) : Go.L.Good (e236 N) := good_of trivial
theorem gd236 (N : Nat) : CalOk Tryz.prog 236 (.ro (mkFun ks236 rs236 (F236 N))) := mkFun_ro (fine236 N) (good236 N) (by kernel_rfl)

/-! ### 174: code.within -/
noncomputable def F174 (N : Nat) : Int × Int × H → Option (Bool × H)
  | (a0, a1, h) =>
    (if (decide (a0 ≥ 0)) = true then (
    some ((decide (a0 < a1)), h))
    else (
    some (false, h))).bind fun (b1, h2) =>
    some (b1, h2)
abbrev ks174 : List SK := [.one (.int .i64), .one (.int .i64)]
abbrev rs174 : List SK := [.one .bool]
noncomputable def e174 (N : Nat) : Env := ⟨Tryz.prog, 12, inTab [], inTab [], natTab [], inTab [], calTab [], altTab [], loopTab [], natTab []⟩
theorem fine174 (N : Nat) : Fine (e174 N) N 174 Tryz.f174 ks174 rs174 (F174 N) :=
  ⟨Tryz.func174, by kernel_rfl, by kernel_rfl, by kernel_rfl, loops_of trivial, by kernel_rfl, by kernel_rfl, fun _ => by kernel_rfl⟩
theorem good174 (N : Nat) : Go.L.Good (e174 N) := good_of trivial
theorem gd174 : CalOk Tryz.prog 174 (.pure (mkP ks174 rs174 (F174 100))) := mkP_good (fine174 100) (good174 100) (by kernel_rfl) (by kernel_rfl)

/-! ### 237: code.arms -/
noncomputable def L237_0 (N : Nat) : Nat → V × Int × V × Int × Int × H → Option ((V × H) ⊕ (Bool × H))
  | 0, _ => none
  | n + 1, (x23, x24, x25, x26, x27, h28) =>
    (if (decide (x27 < x26)) = true then (
    (sidx x25 x27 12).bind fun q29 =>
    (L.asInt .i64 (rd h28 q29 0)).bind fun x30 =>
    (L.asInt .i64 (rd h28 q29 1)).bind fun x31 =>
    (L.asInt .i64 (rd h28 q29 2)).bind fun x32 =>
    (L.asInt .i64 (rd h28 q29 3)).bind fun x33 =>
    (L.asCplx .f64 (rd h28 q29 4)).bind fun x34 =>
    (L.asStr (rd h28 q29 5)).bind fun x35 =>
    (L.asInt .i64 (rd h28 q29 6)).bind fun x36 =>
    (L.asInt .i64 (rd h28 q29 7)).bind fun x37 =>
    ((rd h28 q29 8)).bind fun x38 =>
    ((rd h28 q29 9)).bind fun x39 =>
    ((rd h28 q29 10)).bind fun x40 =>
    (L.asInt .i64 (rd h28 q29 11)).bind fun x41 =>
    (F229 N (x30, x31, x32, x33, (x34.1, x34.2), x35, x36, x37, x38, x39, x40, x24, h28)).bind fun (x42, h43) =>
    (if (x42 != 0) = true then (
    some (.inr (false, h43)))
    else (
    L237_0 N n (x23, x24, x25, x26, (IntKind.i64.wrap (x27 + 1)), h43))))
    else (
    some (.inl (x23, h28))))
noncomputable def F237 (N : Nat) : V × Int × H → Option (Bool × H)
  | (a0, a1, h) =>
    (slen a0).bind fun n1 =>
    (L237_0 N N (a0, a1, a0, n1, 0, h)).bind fun o44 => match o44 with
    | .inl (x45, h46) => (
    (slen x45).bind fun n47 =>
    some ((decide (n47 ≤ 32)), h46))
    | .inr (x48, h49) => (
    some (x48, h49))
abbrev ks237 : List SK := [.one .ref, .one (.int .i64)]
abbrev rs237 : List SK := [.one .bool]
noncomputable def e237 (N : Nat) : Env := ⟨Tryz.prog, 22, inTab [6], inTab [], natTab [(6, 6), (13, 6)], inTab [], calTab [(229, .full (mkFun ks229 rs229 (F229 N)))], altTab [], loopTab [(2, ⟨⟨.normal, [0, 1, 7, 8, 9], [.one .ref, .one (.int .i64), .one .ref, .one (.int .i64), .one (.int .i64)], [], []⟩, [⟨(.exit 0), [0], [.one .ref], [], []⟩, ⟨.ret, [4], [.one .bool], [], []⟩], L237_0 N⟩)], natTab []⟩
theorem l237_0 (N : Nat) : ∀ A, (e237 N).lp (lid (loopAt Tryz.f237 0)) = some A → LoopOk (e237 N) N (loopAt Tryz.f237 0) A :=
  loopOk_of (A := ⟨⟨.normal, [0, 1, 7, 8, 9], [.one .ref, .one (.int .i64), .one .ref, .one (.int .i64), .one (.int .i64)], [], []⟩, [⟨(.exit 0), [0], [.one .ref], [], []⟩, ⟨.ret, [4], [.one .bool], [], []⟩], L237_0 N⟩) (by kernel_rfl) (fun _ => rfl) (fun _ _ => by kernel_rfl)
theorem fine237 (N : Nat) : Fine (e237 N) N 237 Tryz.f237 ks237 rs237 (F237 N) :=
  ⟨Tryz.func237, by kernel_rfl, by kernel_rfl, by kernel_rfl, loops_of ⟨l237_0 N, trivial⟩, by kernel_rfl, by kernel_rfl, fun _ => by kernel_rfl⟩
theorem good237 (N : Nat) : Go.L.Good (e237 N) := good_of ⟨gd229 N, trivial⟩
theorem gd237 (N : Nat) : CalOk Tryz.prog 237 (.full (mkFun ks237 rs237 (F237 N))) := mkFun_good (fine237 N) (good237 N)

/-! ### 172: code.may -/
noncomputable def F172 (N : Nat) : ByteArray × V × ByteArray × Int × Int × V × Int × Int × Int × Int × Int × (Nat × Nat) × ByteArray × Int × Int × V × V × H → Option (Bool × H)
  | (a0_0, a0_1, a1_0, a1_1, a1_2, a1_3, a2_0, a2_1, a2_2, a2_3, a2_4, a2_5, a2_6, a2_7, a2_8, a2_9, a2_10, h) =>
    (F51 100 (a2_0, [])).bind fun (x1, _) =>
    (if (!x1) = true then (
    some (true, h))
    else (
    (if (a2_0 != 1) = true then (
    (F236 N (a2_3, a2_4, (a2_5.1, a2_5.2), a2_6, a2_7, a2_8, a2_9, h)).bind fun (x6, _) =>
    some ((!x6), h))
    else (
    some (false, h))).bind fun (b4, h5) =>
    some (b4, h5))).bind fun (b2, h3) =>
    (if b2 = true then (
    some (true, h3))
    else (
    (if (a2_0 != 27) = true then (
    some ((a2_0 != 33), h3))
    else (
    some (false, h3))).bind fun (b9, h10) =>
    (if b9 = true then (
    (slen a2_10).bind fun n13 =>
    some ((decide (n13 > 0)), h10))
    else (
    some (false, h10))).bind fun (b11, h12) =>
    some (b11, h12))).bind fun (b7, h8) =>
    (if b7 = true then (
    some (true, h8))
    else (
    (if (a2_0 != 34) = true then (
    some ((a2_0 != 33), h8))
    else (
    some (false, h8))).bind fun (b16, h17) =>
    (if b16 = true then (
    some ((a2_2 != 0), h17))
    else (
    some (false, h17))).bind fun (b18, h19) =>
    some (b18, h19))).bind fun (b14, h15) =>
    (if b14 = true then (
    some (false, h15))
    else (
    (if (a2_0 == 1) = true then (
    (if (a2_1 == 0) = true then (
    (F52 N (a2_3, a2_4, (a2_5.1, a2_5.2), a2_6, a2_7, a2_8, a2_9, h15)).bind fun (x22, h23) =>
    some ((x22 == 0), h23))
    else (
    some (false, h15))).bind fun (b20, h21) =>
    some (b20, h21))
    else (
    (if (a2_0 == 3) = true then (
    (F174 100 (a2_1, 255, [])).bind fun (x24, _) =>
    some (x24, h15))
    else (
    ((if (a2_0 == 4) = true then (
    some (a2_0, (a2_0 == 4), a0_0, a0_1, a1_0, a1_1, a1_2, a1_3, a2_0, a2_1, a2_2, a2_3, a2_4, (a2_5.1, a2_5.2), a2_6, a2_7, a2_8, a2_9, a2_10, h15))
    else (
    some (a2_0, (a2_0 == 5), a0_0, a0_1, a1_0, a1_1, a1_2, a1_3, a2_0, a2_1, a2_2, a2_3, a2_4, (a2_5.1, a2_5.2), a2_6, a2_7, a2_8, a2_9, a2_10, h15))) : Option (Int × Bool × ByteArray × V × ByteArray × Int × Int × V × Int × Int × Int × Int × Int × (Nat × Nat) × ByteArray × Int × Int × V × V × H)).bind fun (x25, x26, x27, x28, x29, x30, x31, x32, x33, x34, x35, x36, x37, x38, x39, x40, x41, x42, x43, h44) =>
    (if x26 = true then (
    (F174 100 (x34, x31, [])).bind fun (x45, _) =>
    some (x45, h44))
    else (
    (if (x25 == 17) = true then (
    (if (decide (x34 ≥ 1)) = true then (
    some ((decide (x34 ≤ 9)), h44))
    else (
    some (false, h44))).bind fun (b46, h47) =>
    some (b46, h47))
    else (
    ((if (x25 == 18) = true then (
    some (x25, (x25 == 18), x27, x28, x29, x30, x31, x32, x33, x34, x35, x36, x37, (x38.1, x38.2), x39, x40, x41, x42, x43, h44))
    else (
    some (x25, (x25 == 19), x27, x28, x29, x30, x31, x32, x33, x34, x35, x36, x37, (x38.1, x38.2), x39, x40, x41, x42, x43, h44))) : Option (Int × Bool × ByteArray × V × ByteArray × Int × Int × V × Int × Int × Int × Int × Int × (Nat × Nat) × ByteArray × Int × Int × V × V × H)).bind fun (x48, x49, x50, x51, x52, x53, x54, x55, x56, x57, x58, x59, x60, x61, x62, x63, x64, x65, x66, h67) =>
    (if x49 = true then (
    (F174 100 (x57, 256, [])).bind fun (x68, _) =>
    some (x68, h67))
    else (
    ((if (x48 == 25) = true then (
    some (x48, (x48 == 25), x50, x51, x52, x53, x54, x55, x56, x57, x58, x59, x60, (x61.1, x61.2), x62, x63, x64, x65, x66, h67))
    else (
    some (x48, (x48 == 26), x50, x51, x52, x53, x54, x55, x56, x57, x58, x59, x60, (x61.1, x61.2), x62, x63, x64, x65, x66, h67))) : Option (Int × Bool × ByteArray × V × ByteArray × Int × Int × V × Int × Int × Int × Int × Int × (Nat × Nat) × ByteArray × Int × Int × V × V × H)).bind fun (x69, x70, x71, x72, x73, x74, x75, x76, x77, x78, x79, x80, x81, x82, x83, x84, x85, x86, x87, h88) =>
    (if x70 = true then (
    some (true, h88))
    else (
    (if (x69 == 28) = true then (
    (slen x72).bind fun n89 =>
    (F174 100 (x78, n89, [])).bind fun (x90, _) =>
    some (x90, h88))
    else (
    (if (x69 == 34) = true then (
    (slen x72).bind fun n91 =>
    (F174 100 (x78, n91, [])).bind fun (x92, _) =>
    (if x92 = true then (
    (F174 100 (x79, 3, [])).bind fun (x95, _) =>
    some (x95, h88))
    else (
    some (false, h88))).bind fun (b93, h94) =>
    some (b93, h94))
    else (
    (if (x69 == 27) = true then (
    (F237 N (x87, x75, h88)).bind fun (x96, h97) =>
    some (x96, h97))
    else (
    (if (x69 == 33) = true then (
    (if (decide (x79 ≥ (-1))) = true then (
    some ((decide (x79 ≤ 1048576)), h88))
    else (
    some (false, h88))).bind fun (b98, h99) =>
    (if b98 = true then (
    (if (x79 != (-1)) = true then (
    some (true, h99))
    else (
    some ((x78 == 0), h99))).bind fun (b102, h103) =>
    some (b102, h103))
    else (
    some (false, h99))).bind fun (b100, h101) =>
    (if b100 = true then (
    (F237 N (x87, x75, h101)).bind fun (x106, h107) =>
    some (x106, h107))
    else (
    some (false, h101))).bind fun (b104, h105) =>
    some (b104, h105))
    else (
    some ((x78 == 0), h88)))))))))))))))))))))))
abbrev ks172 : List SK := [.agg [.str, .ref], .agg [.str, (.int .i64), (.int .i64), .ref], .agg [(.int .i64), (.int .i64), (.int .i64), (.int .i64), (.int .i64), (.cplx .f64), .str, (.int .i64), (.int .i64), .ref, .ref]]
abbrev rs172 : List SK := [.one .bool]
noncomputable def e172 (N : Nat) : Env := ⟨Tryz.prog, 156, inTab [3, 4, 5], inTab [], natTab [(3, 3), (4, 4), (5, 5), (7, 5), (12, 5), (16, 5), (23, 5), (27, 5), (32, 5), (39, 5), (43, 5), (48, 5), (53, 5), (57, 5), (61, 5), (68, 5), (74, 5), (76, 4), (81, 5), (85, 5), (92, 5), (100, 5), (102, 3), (108, 5), (110, 3), (115, 5), (121, 5), (123, 4), (128, 5), (132, 5), (137, 5), (141, 5), (147, 5), (149, 4), (153, 5)], inTab [], calTab [(51, .pure (mkP ks51 rs51 (F51 100))), (236, .ro (mkFun ks236 rs236 (F236 N))), (52, .full (mkFun ks52 rs52 (F52 N))), (174, .pure (mkP ks174 rs174 (F174 100))), (237, .full (mkFun ks237 rs237 (F237 N)))], altTab [(2415919175, [⟨.normal, [3, 4, 5, 54, 71], [.lp 3 0, .lp 4 0, .lp 5 0, .one (.int .i64), .one .bool], [3, 4, 5], [.cells [.str, .ref], .cells [.str, (.int .i64), (.int .i64), .ref], .cells [(.int .i64), (.int .i64), (.int .i64), (.int .i64), (.int .i64), (.cplx .f64), .str, (.int .i64), (.int .i64), .ref, .ref]]⟩]), (3758096473, [⟨.normal, [3, 4, 5, 54, 89], [.lp 3 0, .lp 4 0, .lp 5 0, .one (.int .i64), .one .bool], [3, 4, 5], [.cells [.str, .ref], .cells [.str, (.int .i64), (.int .i64), .ref], .cells [(.int .i64), (.int .i64), (.int .i64), (.int .i64), (.int .i64), (.cplx .f64), .str, (.int .i64), (.int .i64), .ref, .ref]]⟩]), (4563402847, [⟨.normal, [3, 4, 5, 54, 95], [.lp 3 0, .lp 4 0, .lp 5 0, .one (.int .i64), .one .bool], [3, 4, 5], [.cells [.str, .ref], .cells [.str, (.int .i64), (.int .i64), .ref], .cells [(.int .i64), (.int .i64), (.int .i64), (.int .i64), (.int .i64), (.cplx .f64), .str, (.int .i64), (.int .i64), .ref, .ref]]⟩])], loopTab [], natTab []⟩
theorem fine172 (N : Nat) : Fine (e172 N) N 172 Tryz.f172 ks172 rs172 (F172 N) :=
  ⟨Tryz.func172, by kernel_rfl, by kernel_rfl, by kernel_rfl, loops_of trivial, by kernel_rfl, by kernel_rfl, fun _ => by kernel_rfl⟩
theorem good172 (N : Nat) : Go.L.Good (e172 N) := good_of ⟨gd51, ⟨gd236 N, ⟨gd52 N, ⟨gd174, ⟨gd237 N, trivial⟩⟩⟩⟩⟩
theorem gd172 (N : Nat) : CalOk Tryz.prog 172 (.full (mkFun ks172 rs172 (F172 N))) := mkFun_good (fine172 N) (good172 N)

/-! ### 173: code.goes -/
noncomputable def L173_0 (N : Nat) : Nat → V × V × Int × Int × H → Option (V × H)
  | 0, _ => none
  | n + 1, (x54, x55, x56, x57, h58) =>
    (if (decide (x57 < x56)) = true then (
    (sidx x55 x57 12).bind fun q59 =>
    (L.asInt .i64 (rd h58 q59 0)).bind fun x60 =>
    (L.asInt .i64 (rd h58 q59 1)).bind fun x61 =>
    (L.asInt .i64 (rd h58 q59 2)).bind fun x62 =>
    (L.asInt .i64 (rd h58 q59 3)).bind fun x63 =>
    (L.asCplx .f64 (rd h58 q59 4)).bind fun x64 =>
    (L.asStr (rd h58 q59 5)).bind fun x65 =>
    (L.asInt .i64 (rd h58 q59 6)).bind fun x66 =>
    (L.asInt .i64 (rd h58 q59 7)).bind fun x67 =>
    ((rd h58 q59 8)).bind fun x68 =>
    ((rd h58 q59 9)).bind fun x69 =>
    ((rd h58 q59 10)).bind fun x70 =>
    (L.asInt .i64 (rd h58 q59 11)).bind fun x71 =>
    (happ h58 x54 1 1 [(.int .i64 x71)]).bind fun (v72, h73) =>
    L173_0 N n (v72, x55, x56, (IntKind.i64.wrap (x57 + 1)), h73))
    else (
    some (x54, h58)))
noncomputable def F173 (N : Nat) : Int × Int × Int × Int × Int × (Nat × Nat) × ByteArray × Int × Int × V × V × H → Option (V × H)
  | (a0_0, a0_1, a0_2, a0_3, a0_4, a0_5, a0_6, a0_7, a0_8, a0_9, a0_10, h) =>
    ((if (a0_0 == 25) = true then (
    some (.nils, a0_0, (a0_0 == 25), a0_0, a0_1, a0_2, a0_3, a0_4, (a0_5.1, a0_5.2), a0_6, a0_7, a0_8, a0_9, a0_10, h))
    else (
    (if (a0_0 == 26) = true then (
    some (.nils, a0_0, (a0_0 == 26), a0_0, a0_1, a0_2, a0_3, a0_4, (a0_5.1, a0_5.2), a0_6, a0_7, a0_8, a0_9, a0_10, h))
    else (
    some (.nils, a0_0, (a0_0 == 27), a0_0, a0_1, a0_2, a0_3, a0_4, (a0_5.1, a0_5.2), a0_6, a0_7, a0_8, a0_9, a0_10, h))))) : Option (V × Int × Bool × Int × Int × Int × Int × Int × (Nat × Nat) × ByteArray × Int × Int × V × V × H)).bind fun (x1, x2, x3, x4, x5, x6, x7, x8, x9, x10, x11, x12, x13, x14, h15) =>
    ((if x3 = true then (
    (happ h15 x1 1 1 [(.int .i64 x5)]).bind fun (v16, h17) =>
    some (v16, x4, x5, x6, x7, x8, (x9.1, x9.2), x10, x11, x12, x13, x14, h17))
    else (
    (if (x2 == 33) = true then (
    (if (x6 != (-1)) = true then (
    (happ h15 x1 1 1 [(.int .i64 x5)]).bind fun (v18, h19) =>
    some (v18, x4, x5, x6, x7, x8, (x9.1, x9.2), x10, x11, x12, x13, x14, h19))
    else (
    some (x1, x4, x5, x6, x7, x8, (x9.1, x9.2), x10, x11, x12, x13, x14, h15))))
    else (
    some (x1, x4, x5, x6, x7, x8, (x9.1, x9.2), x10, x11, x12, x13, x14, h15))))) : Option (V × Int × Int × Int × Int × Int × (Nat × Nat) × ByteArray × Int × Int × V × V × H)).bind fun (x20, x21, x22, x23, x24, x25, x26, x27, x28, x29, x30, x31, h32) =>
    (slen x31).bind fun n33 =>
    (L173_0 N N (x20, x31, n33, 0, h32)).bind fun (x74, h75) =>
    some (x74, h75)
abbrev ks173 : List SK := [.agg [(.int .i64), (.int .i64), (.int .i64), (.int .i64), (.int .i64), (.cplx .f64), .str, (.int .i64), (.int .i64), .ref, .ref]]
abbrev rs173 : List SK := [.one .ref]
noncomputable def e173 (N : Nat) : Env := ⟨Tryz.prog, 41, inTab [1, 5, 15, 25, 37], inTab [], natTab [(1, 1), (5, 5), (6, 1), (13, 1), (19, 1), (23, 1), (27, 1), (35, 5)], inTab [], calTab [], altTab [(1073741832, [⟨.normal, [1, 3, 7, 8], [.lp 1 0, .one .ref, .one (.int .i64), .one .bool], [1], [.cells [(.int .i64), (.int .i64), (.int .i64), (.int .i64), (.int .i64), (.cplx .f64), .str, (.int .i64), (.int .i64), .ref, .ref]]⟩]), (1879441416, [⟨.normal, [1, 3], [.lp 1 0, .one .ref], [1], [.cells [(.int .i64), (.int .i64), (.int .i64), (.int .i64), (.int .i64), (.cplx .f64), .str, (.int .i64), (.int .i64), .ref, .ref]]⟩])], loopTab [(11, ⟨⟨.normal, [3, 28, 29, 30], [.one .ref, .one .ref, .one (.int .i64), .one (.int .i64)], [], []⟩, [⟨(.exit 1), [3], [.one .ref], [], []⟩], L173_0 N⟩)], natTab []⟩
theorem l173_0 (N : Nat) : ∀ A, (e173 N).lp (lid (loopAt Tryz.f173 0)) = some A → LoopOk (e173 N) N (loopAt Tryz.f173 0) A :=
  loopOk_of (A := ⟨⟨.normal, [3, 28, 29, 30], [.one .ref, .one .ref, .one (.int .i64), .one (.int .i64)], [], []⟩, [⟨(.exit 1), [3], [.one .ref], [], []⟩], L173_0 N⟩) (by kernel_rfl) (fun _ => rfl) (fun _ _ => by kernel_rfl)
theorem fine173 (N : Nat) : Fine (e173 N) N 173 Tryz.f173 ks173 rs173 (F173 N) :=
  ⟨Tryz.func173, by kernel_rfl, by kernel_rfl, by kernel_rfl, loops_of ⟨l173_0 N, trivial⟩, by kernel_rfl, by kernel_rfl, fun _ => by kernel_rfl⟩
theorem good173 (N : Nat) : Go.L.Good (e173 N) := good_of trivial
theorem gd173 (N : Nat) : CalOk Tryz.prog 173 (.full (mkFun ks173 rs173 (F173 N))) := mkFun_good (fine173 N) (good173 N)

/-! ### 118: code.coded -/
noncomputable def L118_1 (N : Nat) : Nat → Int × V × Int × Int × V × Int × Int × ByteArray × V × ByteArray × Int × Int × V × H → Option ((V × Int × Int × ByteArray × V × ByteArray × Int × Int × V × H) ⊕ (Int × Int × H))
  | 0, _ => none
  | n + 1, (x47, x48, x49, x50, x51, x52, x53, x54, x55, x56, x57, x58, x59, h60) =>
    (if (decide (x53 < x52)) = true then (
    (sidx x51 x53 1).bind fun q61 =>
    (L.asInt .i64 (rd h60 q61 0)).bind fun x62 =>
    (slen x59).bind fun n63 =>
    (F174 100 (x62, n63, [])).bind fun (x64, _) =>
    (if (!x64) = true then (
    some (.inr (62, x47, h60)))
    else (
    L118_1 N n (x47, x48, x49, x50, x51, x52, (IntKind.i64.wrap (x53 + 1)), x54, x55, x56, x57, x58, x59, h60))))
    else (
    some (.inl (x48, x49, x50, x54, x55, x56, x57, x58, x59, h60))))
noncomputable def L118_0 (N : Nat) : Nat → V × Int × Int × ByteArray × V × ByteArray × Int × Int × V × H → Option ((H) ⊕ (Int × Int × H))
  | 0, _ => none
  | n + 1, (x79, x80, x81, x82, x83, x84, x85, x86, x87, h88) =>
    (if (decide (x81 < x80)) = true then (
    (sidx x79 x81 11).bind fun q89 =>
    (L.asInt .i64 (rd h88 q89 0)).bind fun x90 =>
    (L.asInt .i64 (rd h88 q89 1)).bind fun x91 =>
    (L.asInt .i64 (rd h88 q89 2)).bind fun x92 =>
    (L.asInt .i64 (rd h88 q89 3)).bind fun x93 =>
    (L.asInt .i64 (rd h88 q89 4)).bind fun x94 =>
    (L.asCplx .f64 (rd h88 q89 5)).bind fun x95 =>
    (L.asStr (rd h88 q89 6)).bind fun x96 =>
    (L.asInt .i64 (rd h88 q89 7)).bind fun x97 =>
    (L.asInt .i64 (rd h88 q89 8)).bind fun x98 =>
    ((rd h88 q89 9)).bind fun x99 =>
    ((rd h88 q89 10)).bind fun x100 =>
    (F172 N (x82, x83, x84, x85, x86, x87, x90, x91, x92, x93, x94, (x95.1, x95.2), x96, x97, x98, x99, x100, h88)).bind fun (x101, h102) =>
    (if (!x101) = true then (
    some (.inr (61, x81, h102)))
    else (
    (F173 N (x90, x91, x92, x93, x94, (x95.1, x95.2), x96, x97, x98, x99, x100, h102)).bind fun (x103, h104) =>
    (slen x103).bind fun n105 =>
    (L118_1 N N (x81, x79, x80, x81, x103, n105, 0, x82, x83, x84, x85, x86, x87, h104)).bind fun o106 => match o106 with
    | .inl (x107, x108, x109, x110, x111, x112, x113, x114, x115, h116) => (
    L118_0 N n (x107, x108, (IntKind.i64.wrap (x109 + 1)), x110, x111, x112, x113, x114, x115, h116))
    | .inr (x117, x118, h119) => (
    some (.inr (x117, x118, h119))))))
    else (
    some (.inl h88)))
noncomputable def F118 (N : Nat) : ByteArray × V × ByteArray × Int × Int × V × H → Option (Int × Int × H)
  | (a0_0, a0_1, a1_0, a1_1, a1_2, a1_3, h) =>
    (slen a1_3).bind fun n1 =>
    (L118_0 N N (a1_3, n1, 0, a0_0, a0_1, a1_0, a1_1, a1_2, a1_3, h)).bind fun o120 => match o120 with
    | .inl h121 => (
    some (0, 0, h121))
    | .inr (x122, x123, h124) => (
    some (x122, x123, h124))
abbrev ks118 : List SK := [.agg [.str, .ref], .agg [.str, (.int .i64), (.int .i64), .ref]]
abbrev rs118 : List SK := [.one (.int .i64), .one (.int .i64)]
noncomputable def e118 (N : Nat) : Env := ⟨Tryz.prog, 40, inTab [2, 3, 7], inTab [], natTab [(2, 2), (3, 3), (7, 7), (10, 3), (32, 3)], inTab [], calTab [(172, .full (mkFun ks172 rs172 (F172 N))), (173, .full (mkFun ks173 rs173 (F173 N))), (174, .pure (mkP ks174 rs174 (F174 100)))], altTab [], loopTab [(2, ⟨⟨.normal, [2, 3, 11, 12, 13], [.lp 2 0, .lp 3 0, .one .ref, .one (.int .i64), .one (.int .i64)], [2, 3], [.cells [.str, .ref], .cells [.str, (.int .i64), (.int .i64), .ref]]⟩, [⟨(.exit 0), [], [], [], []⟩, ⟨.ret, [4, 5], [.one (.int .i64), .one (.int .i64)], [], []⟩], L118_0 N⟩), (7, ⟨⟨.normal, [2, 3, 6, 11, 12, 13, 25, 26, 27], [.lp 2 0, .lp 3 0, .one (.int .i64), .one .ref, .one (.int .i64), .one (.int .i64), .one .ref, .one (.int .i64), .one (.int .i64)], [2, 3], [.cells [.str, .ref], .cells [.str, (.int .i64), (.int .i64), .ref]]⟩, [⟨(.exit 2), [2, 3, 11, 12, 13], [.lp 2 0, .lp 3 0, .one .ref, .one (.int .i64), .one (.int .i64)], [2, 3], [.cells [.str, .ref], .cells [.str, (.int .i64), (.int .i64), .ref]]⟩, ⟨.ret, [4, 5], [.one (.int .i64), .one (.int .i64)], [], []⟩], L118_1 N⟩)], natTab []⟩
theorem l118_0 (N : Nat) : ∀ A, (e118 N).lp (lid (loopAt Tryz.f118 0)) = some A → LoopOk (e118 N) N (loopAt Tryz.f118 0) A :=
  loopOk_of (A := ⟨⟨.normal, [2, 3, 11, 12, 13], [.lp 2 0, .lp 3 0, .one .ref, .one (.int .i64), .one (.int .i64)], [2, 3], [.cells [.str, .ref], .cells [.str, (.int .i64), (.int .i64), .ref]]⟩, [⟨(.exit 0), [], [], [], []⟩, ⟨.ret, [4, 5], [.one (.int .i64), .one (.int .i64)], [], []⟩], L118_0 N⟩) (by kernel_rfl) (fun _ => rfl) (fun _ _ => by kernel_rfl)
theorem l118_1 (N : Nat) : ∀ A, (e118 N).lp (lid (loopAt Tryz.f118 1)) = some A → LoopOk (e118 N) N (loopAt Tryz.f118 1) A :=
  loopOk_of (A := ⟨⟨.normal, [2, 3, 6, 11, 12, 13, 25, 26, 27], [.lp 2 0, .lp 3 0, .one (.int .i64), .one .ref, .one (.int .i64), .one (.int .i64), .one .ref, .one (.int .i64), .one (.int .i64)], [2, 3], [.cells [.str, .ref], .cells [.str, (.int .i64), (.int .i64), .ref]]⟩, [⟨(.exit 2), [2, 3, 11, 12, 13], [.lp 2 0, .lp 3 0, .one .ref, .one (.int .i64), .one (.int .i64)], [2, 3], [.cells [.str, .ref], .cells [.str, (.int .i64), (.int .i64), .ref]]⟩, ⟨.ret, [4, 5], [.one (.int .i64), .one (.int .i64)], [], []⟩], L118_1 N⟩) (by kernel_rfl) (fun _ => rfl) (fun _ _ => by kernel_rfl)
theorem fine118 (N : Nat) : Fine (e118 N) N 118 Tryz.f118 ks118 rs118 (F118 N) :=
  ⟨Tryz.func118, by kernel_rfl, by kernel_rfl, by kernel_rfl, loops_of ⟨l118_0 N, ⟨l118_1 N, trivial⟩⟩, by kernel_rfl, by kernel_rfl, fun _ => by kernel_rfl⟩
theorem good118 (N : Nat) : Go.L.Good (e118 N) := good_of ⟨gd172 N, ⟨gd173 N, ⟨gd174, trivial⟩⟩⟩
theorem gd118 (N : Nat) : CalOk Tryz.prog 118 (.full (mkFun ks118 rs118 (F118 N))) := mkFun_good (fine118 N) (good118 N)

/-! ### 175: code.leads -/
noncomputable def F175 (N : Nat) : Int × Int × Int × Int × Int × (Nat × Nat) × ByteArray × Int × Int × V × V × Int × H → Option (V × H)
  | (a0_0, a0_1, a0_2, a0_3, a0_4, a0_5, a0_6, a0_7, a0_8, a0_9, a0_10, a1, h) =>
    ((if (a0_0 == 25) = true then (
    some (a1, .nils, (a0_0 == 25), a0_0, a0_1, a0_2, a0_3, a0_4, (a0_5.1, a0_5.2), a0_6, a0_7, a0_8, a0_9, a0_10, h))
    else (
    (if (a0_0 == 27) = true then (
    some (a1, .nils, (a0_0 == 27), a0_0, a0_1, a0_2, a0_3, a0_4, (a0_5.1, a0_5.2), a0_6, a0_7, a0_8, a0_9, a0_10, h))
    else (
    (if (a0_0 == 33) = true then (
    some (a1, .nils, (a0_0 == 33), a0_0, a0_1, a0_2, a0_3, a0_4, (a0_5.1, a0_5.2), a0_6, a0_7, a0_8, a0_9, a0_10, h))
    else (
    (if (a0_0 == 29) = true then (
    some (a1, .nils, (a0_0 == 29), a0_0, a0_1, a0_2, a0_3, a0_4, (a0_5.1, a0_5.2), a0_6, a0_7, a0_8, a0_9, a0_10, h))
    else (
    some (a1, .nils, (a0_0 == 45), a0_0, a0_1, a0_2, a0_3, a0_4, (a0_5.1, a0_5.2), a0_6, a0_7, a0_8, a0_9, a0_10, h))))))))) : Option (Int × V × Bool × Int × Int × Int × Int × Int × (Nat × Nat) × ByteArray × Int × Int × V × V × H)).bind fun (x1, x2, x3, x4, x5, x6, x7, x8, x9, x10, x11, x12, x13, x14, h15) =>
    ((if x3 = true then (
    some (x2, x4, x5, x6, x7, x8, (x9.1, x9.2), x10, x11, x12, x13, x14, h15))
    else (
    (happ h15 x2 1 1 [(.int .i64 (IntKind.i64.wrap (x1 + 1)))]).bind fun (v16, h17) =>
    some (v16, x4, x5, x6, x7, x8, (x9.1, x9.2), x10, x11, x12, x13, x14, h17))) : Option (V × Int × Int × Int × Int × Int × (Nat × Nat) × ByteArray × Int × Int × V × V × H)).bind fun (x18, x19, x20, x21, x22, x23, x24, x25, x26, x27, x28, x29, h30) =>
    (F173 N (x19, x20, x21, x22, x23, (x24.1, x24.2), x25, x26, x27, x28, x29, h30)).bind fun (x31, h32) =>
    (scells h32 x31 1).bind fun cs35 =>
    (happ h32 x18 1 (snlen x31) cs35).bind fun (v33, h34) =>
    some (v33, h34)
abbrev ks175 : List SK := [.agg [(.int .i64), (.int .i64), (.int .i64), (.int .i64), (.int .i64), (.cplx .f64), .str, (.int .i64), (.int .i64), .ref, .ref], .one (.int .i64)]
abbrev rs175 : List SK := [.one .ref]
noncomputable def e175 (N : Nat) : Env := ⟨Tryz.prog, 23, inTab [2, 11], inTab [], natTab [(2, 2), (6, 2)], inTab [], calTab [(173, .full (mkFun ks173 rs173 (F173 N)))], altTab [(805306381, [⟨.normal, [2, 5], [.lp 2 0, .one .ref], [2], [.cells [(.int .i64), (.int .i64), (.int .i64), (.int .i64), (.int .i64), (.cplx .f64), .str, (.int .i64), (.int .i64), .ref, .ref]]⟩]), (1342177293, [⟨.normal, [1, 2, 5, 13], [.one (.int .i64), .lp 2 0, .one .ref, .one .bool], [2], [.cells [(.int .i64), (.int .i64), (.int .i64), (.int .i64), (.int .i64), (.cplx .f64), .str, (.int .i64), (.int .i64), .ref, .ref]]⟩])], loopTab [], natTab []⟩
theorem fine175 (N : Nat) : Fine (e175 N) N 175 Tryz.f175 ks175 rs175 (F175 N) :=
  ⟨Tryz.func175, by kernel_rfl, by kernel_rfl, by kernel_rfl, loops_of trivial, by kernel_rfl, by kernel_rfl, fun _ => by kernel_rfl⟩
theorem good175 (N : Nat) : Go.L.Good (e175 N) := good_of ⟨gd173 N, trivial⟩
theorem gd175 (N : Nat) : CalOk Tryz.prog 175 (.full (mkFun ks175 rs175 (F175 N))) := mkFun_good (fine175 N) (good175 N)

/-! ### 119: code.heights -/
noncomputable def L119_0 (N : Nat) : Nat → V × V × Int × Int × ByteArray × V × ByteArray × Int × Int × V × H → Option (V × V × ByteArray × V × ByteArray × Int × Int × V × H)
  | 0, _ => none
  | n + 1, (x19, x20, x21, x22, x23, x24, x25, x26, x27, x28, h29) =>
    (if (decide (x22 < x21)) = true then (
    (sidx x19 x22 1).bind fun q30 =>
    (wr h29 q30 [(.int .i64 (-1))]).bind fun h31 =>
    L119_0 N n (x19, x20, x21, (IntKind.i64.wrap (x22 + 1)), x23, x24, x25, x26, x27, x28, h31))
    else (
    some (x19, x20, x23, x24, x25, x26, x27, x28, h29)))
noncomputable def L119_1 (N : Nat) : Nat → V × V × Int × ByteArray × V × ByteArray × Int × Int × V × H → Option (V × V × Int × ByteArray × V × ByteArray × Int × Int × V × H)
  | 0, _ => none
  | n + 1, (x62, x63, x64, x65, x66, x67, x68, x69, x70, h71) =>
    (slen x62).bind fun n72 =>
    (if (decide (x64 < n72)) = true then (
    (sidx x62 x64 1).bind fun q75 =>
    (L.asInt .i64 (rd h71 q75 0)).bind fun x76 =>
    (if (decide (x76 < 0)) = true then (
    some (true, h71))
    else (
    (sidx x63 x64 1).bind fun q79 =>
    (L.asBool (rd h71 q79 0)).bind fun x80 =>
    some (x80, h71))).bind fun (b77, h78) =>
    some (b77, h78))
    else (
    some (false, h71))).bind fun (b73, h74) =>
    (if b73 = true then (
    L119_1 N n (x62, x63, (IntKind.i64.wrap (x64 + 1)), x65, x66, x67, x68, x69, x70, h74))
    else (
    some (x62, x63, x64, x65, x66, x67, x68, x69, x70, h74)))
noncomputable def L119_2 (N : Nat) : Nat → V × V × Int × Int × Int × V × Int × Int × ByteArray × V × ByteArray × Int × Int × V × H → Option ((V × V × Int × ByteArray × V × ByteArray × Int × Int × V × H) ⊕ (V × Int × Int × H))
  | 0, _ => none
  | n + 1, (x174, x175, x176, x177, x178, x179, x180, x181, x182, x183, x184, x185, x186, x187, h188) =>
    (if (decide (x181 < x180)) = true then (
    (sidx x179 x181 1).bind fun q189 =>
    (L.asInt .i64 (rd h188 q189 0)).bind fun x190 =>
    (slen x174).bind fun n191 =>
    ((if (x190 == n191) = true then (
    some (.inr (.nils, 64, x176, h188)))
    else (
    (sidx x174 x190 1).bind fun q192 =>
    (L.asInt .i64 (rd h188 q192 0)).bind fun x193 =>
    (if (decide (x193 < 0)) = true then (
    (sidx x174 x190 1).bind fun q194 =>
    (wr h188 q194 [(.int .i64 x177)]).bind fun h195 =>
    some (.inl (x174, x175, x176, x177, (if x190 < x178 then x190 else x178), x179, x180, x181, x182, x183, x184, x185, x186, x187, h195)))
    else (
    (sidx x174 x190 1).bind fun q196 =>
    (L.asInt .i64 (rd h188 q196 0)).bind fun x197 =>
    (if (x197 != x177) = true then (
    some (.inr (.nils, 63, x176, h188)))
    else (
    some (.inl (x174, x175, x176, x177, x178, x179, x180, x181, x182, x183, x184, x185, x186, x187, h188)))))))) : Option ((V × V × Int × Int × Int × V × Int × Int × ByteArray × V × ByteArray × Int × Int × V × H) ⊕ (V × Int × Int × H))).bind fun o198 => match o198 with
    | .inl (x199, x200, x201, x202, x203, x204, x205, x206, x207, x208, x209, x210, x211, x212, h213) => (
    L119_2 N n (x199, x200, x201, x202, x203, x204, x205, (IntKind.i64.wrap (x206 + 1)), x207, x208, x209, x210, x211, x212, h213))
    | .inr (x214, x215, x216, h217) => (
    some (.inr (x214, x215, x216, h217))))
    else (
    some (.inl (x174, x175, x178, x182, x183, x184, x185, x186, x187, h188))))
noncomputable def L119_3 (N : Nat) : Nat → V × V × Int × ByteArray × V × ByteArray × Int × Int × V × H → Option (V × Int × Int × H)
  | 0, _ => none
  | n + 1, (x303, x304, x305, x306, x307, x308, x309, x310, x311, h312) =>
    (L119_1 N N (x303, x304, x305, x306, x307, x308, x309, x310, x311, h312)).bind fun (x313, x314, x315, x316, x317, x318, x319, x320, x321, h322) =>
    (slen x313).bind fun n323 =>
    (if (x315 == n323) = true then (
    some (x313, 0, 0, h322))
    else (
    (sidx x314 x315 1).bind fun q324 =>
    (wr h322 q324 [(.bool true)]).bind fun h325 =>
    (sidx x321 x315 11).bind fun q326 =>
    (L.asInt .i64 (rd h325 q326 0)).bind fun x327 =>
    (L.asInt .i64 (rd h325 q326 1)).bind fun x328 =>
    (L.asInt .i64 (rd h325 q326 2)).bind fun x329 =>
    (L.asInt .i64 (rd h325 q326 3)).bind fun x330 =>
    (L.asInt .i64 (rd h325 q326 4)).bind fun x331 =>
    (L.asCplx .f64 (rd h325 q326 5)).bind fun x332 =>
    (L.asStr (rd h325 q326 6)).bind fun x333 =>
    (L.asInt .i64 (rd h325 q326 7)).bind fun x334 =>
    (L.asInt .i64 (rd h325 q326 8)).bind fun x335 =>
    ((rd h325 q326 9)).bind fun x336 =>
    ((rd h325 q326 10)).bind fun x337 =>
    (F43 N (x316, x317, x327, x328, x329, x330, x331, (x332.1, x332.2), x333, x334, x335, x336, x337, h325)).bind fun (x338, x339, x340, _) =>
    (sidx x313 x315 1).bind fun q341 =>
    (L.asInt .i64 (rd h325 q341 0)).bind fun x342 =>
    (sidx x313 x315 1).bind fun q343 =>
    (L.asInt .i64 (rd h325 q343 0)).bind fun x344 =>
    (if (decide (x338 > x344)) = true then (
    some (true, h325))
    else (
    some ((decide ((IntKind.i64.wrap ((IntKind.i64.wrap (x342 - x338)) + x339)) > 256)), h325))).bind fun (b345, h346) =>
    (if b345 = true then (
    some (.nils, 63, x315, h346))
    else (
    (sidx x321 x315 11).bind fun q347 =>
    (L.asInt .i64 (rd h346 q347 0)).bind fun x348 =>
    (L.asInt .i64 (rd h346 q347 1)).bind fun x349 =>
    (L.asInt .i64 (rd h346 q347 2)).bind fun x350 =>
    (L.asInt .i64 (rd h346 q347 3)).bind fun x351 =>
    (L.asInt .i64 (rd h346 q347 4)).bind fun x352 =>
    (L.asCplx .f64 (rd h346 q347 5)).bind fun x353 =>
    (L.asStr (rd h346 q347 6)).bind fun x354 =>
    (L.asInt .i64 (rd h346 q347 7)).bind fun x355 =>
    (L.asInt .i64 (rd h346 q347 8)).bind fun x356 =>
    ((rd h346 q347 9)).bind fun x357 =>
    ((rd h346 q347 10)).bind fun x358 =>
    (F175 N (x348, x349, x350, x351, x352, (x353.1, x353.2), x354, x355, x356, x357, x358, x315, h346)).bind fun (x359, h360) =>
    (slen x359).bind fun n361 =>
    (L119_2 N N (x313, x314, x315, (IntKind.i64.wrap ((IntKind.i64.wrap (x342 - x338)) + x339)), x315, x359, n361, 0, x316, x317, x318, x319, x320, x321, h360)).bind fun o362 => match o362 with
    | .inl (x363, x364, x365, x366, x367, x368, x369, x370, x371, h372) => (
    L119_3 N n (x363, x364, x365, x366, x367, x368, x369, x370, x371, h372))
    | .inr (x373, x374, x375, h376) => (
    some (x373, x374, x375, h376))))))
noncomputable def F119 (N : Nat) : ByteArray × V × ByteArray × Int × Int × V × H → Option (V × Int × Int × H)
  | (a0_0, a0_1, a1_0, a1_1, a1_2, a1_3, h) =>
    (slen a1_3).bind fun n1 =>
    (if 0 ≤ n1 then (if n1 ≤ n1 then (if n1 * ((1 : Nat) : Int) ≤ ((mostCells : Nat) : Int) then (
    (some (h ++ [O.cells 0 (repeatC (Int.toNat n1) [(.int .i64 0)])]) : Option H).bind fun h2 =>
    (slen a1_3).bind fun n3 =>
    (if 0 ≤ n3 then (if n3 ≤ n3 then (if n3 * ((1 : Nat) : Int) ≤ ((mostCells : Nat) : Int) then (
    (some (h2 ++ [O.cells 0 (repeatC (Int.toNat n3) [(.bool false)])]) : Option H).bind fun h4 =>
    (slen (.sl (h).length 0 0 (Int.toNat n1) 1 (some (Int.toNat n1)))).bind fun n5 =>
    (L119_0 N N ((.sl (h).length 0 0 (Int.toNat n1) 1 (some (Int.toNat n1))), (.sl (h2).length 0 0 (Int.toNat n3) 1 (some (Int.toNat n3))), n5, 0, a0_0, a0_1, a1_0, a1_1, a1_2, a1_3, h4)).bind fun (x32, x33, x34, x35, x36, x37, x38, x39, h40) =>
    (sidx x32 0 1).bind fun q41 =>
    (wr h40 q41 [(.int .i64 0)]).bind fun h42 =>
    (L119_1 N N (x32, x33, 0, x34, x35, x36, x37, x38, x39, h42)).bind fun (x81, x82, x83, x84, x85, x86, x87, x88, x89, h90) =>
    (slen x81).bind fun n91 =>
    (if (x83 == n91) = true then (
    some (x81, 0, 0, h90))
    else (
    (sidx x82 x83 1).bind fun q92 =>
    (wr h90 q92 [(.bool true)]).bind fun h93 =>
    (sidx x89 x83 11).bind fun q94 =>
    (L.asInt .i64 (rd h93 q94 0)).bind fun x95 =>
    (L.asInt .i64 (rd h93 q94 1)).bind fun x96 =>
    (L.asInt .i64 (rd h93 q94 2)).bind fun x97 =>
    (L.asInt .i64 (rd h93 q94 3)).bind fun x98 =>
    (L.asInt .i64 (rd h93 q94 4)).bind fun x99 =>
    (L.asCplx .f64 (rd h93 q94 5)).bind fun x100 =>
    (L.asStr (rd h93 q94 6)).bind fun x101 =>
    (L.asInt .i64 (rd h93 q94 7)).bind fun x102 =>
    (L.asInt .i64 (rd h93 q94 8)).bind fun x103 =>
    ((rd h93 q94 9)).bind fun x104 =>
    ((rd h93 q94 10)).bind fun x105 =>
    (F43 N (x84, x85, x95, x96, x97, x98, x99, (x100.1, x100.2), x101, x102, x103, x104, x105, h93)).bind fun (x106, x107, x108, _) =>
    (sidx x81 x83 1).bind fun q109 =>
    (L.asInt .i64 (rd h93 q109 0)).bind fun x110 =>
    (sidx x81 x83 1).bind fun q111 =>
    (L.asInt .i64 (rd h93 q111 0)).bind fun x112 =>
    (if (decide (x106 > x112)) = true then (
    some (true, h93))
    else (
    some ((decide ((IntKind.i64.wrap ((IntKind.i64.wrap (x110 - x106)) + x107)) > 256)), h93))).bind fun (b113, h114) =>
    (if b113 = true then (
    some (.nils, 63, x83, h114))
    else (
    (sidx x89 x83 11).bind fun q115 =>
    (L.asInt .i64 (rd h114 q115 0)).bind fun x116 =>
    (L.asInt .i64 (rd h114 q115 1)).bind fun x117 =>
    (L.asInt .i64 (rd h114 q115 2)).bind fun x118 =>
    (L.asInt .i64 (rd h114 q115 3)).bind fun x119 =>
    (L.asInt .i64 (rd h114 q115 4)).bind fun x120 =>
    (L.asCplx .f64 (rd h114 q115 5)).bind fun x121 =>
    (L.asStr (rd h114 q115 6)).bind fun x122 =>
    (L.asInt .i64 (rd h114 q115 7)).bind fun x123 =>
    (L.asInt .i64 (rd h114 q115 8)).bind fun x124 =>
    ((rd h114 q115 9)).bind fun x125 =>
    ((rd h114 q115 10)).bind fun x126 =>
    (F175 N (x116, x117, x118, x119, x120, (x121.1, x121.2), x122, x123, x124, x125, x126, x83, h114)).bind fun (x127, h128) =>
    (slen x127).bind fun n129 =>
    (L119_2 N N (x81, x82, x83, (IntKind.i64.wrap ((IntKind.i64.wrap (x110 - x106)) + x107)), x83, x127, n129, 0, x84, x85, x86, x87, x88, x89, h128)).bind fun o218 => match o218 with
    | .inl (x219, x220, x221, x222, x223, x224, x225, x226, x227, h228) => (
    (L119_3 N N (x219, x220, x221, x222, x223, x224, x225, x226, x227, h228)).bind fun (x377, x378, x379, h380) =>
    some (x377, x378, x379, h380))
    | .inr (x381, x382, x383, h384) => (
    some (x381, x382, x383, h384))))))) else none) else none) else none)) else none) else none) else none)
abbrev ks119 : List SK := [.agg [.str, .ref], .agg [.str, (.int .i64), (.int .i64), .ref]]
abbrev rs119 : List SK := [.one .ref, .one (.int .i64), .one (.int .i64)]
noncomputable def e119 (N : Nat) : Env := ⟨Tryz.prog, 136, inTab [2, 3], inTab [], natTab [(2, 2), (3, 3), (18, 3), (22, 3), (66, 3), (95, 3)], inTab [], calTab [(43, .ro (mkFun ks43 rs43 (F43 N))), (175, .full (mkFun ks175 rs175 (F175 N)))], altTab [(6712459371, [⟨.normal, [2, 3, 7, 8, 10, 14, 15, 101, 102, 103], [.lp 2 0, .lp 3 0, .one .ref, .one .ref, .one (.int .i64), .one (.int .i64), .one (.int .i64), .one .ref, .one (.int .i64), .one (.int .i64)], [2, 3], [.cells [.str, .ref], .cells [.str, (.int .i64), (.int .i64), .ref]]⟩, ⟨.ret, [4, 5, 6], [.one .ref, .one (.int .i64), .one (.int .i64)], [], []⟩])], loopTab [(4, ⟨⟨.normal, [2, 3, 7, 8, 27, 28], [.lp 2 0, .lp 3 0, .one .ref, .one .ref, .one (.int .i64), .one (.int .i64)], [2, 3], [.cells [.str, .ref], .cells [.str, (.int .i64), (.int .i64), .ref]]⟩, [⟨(.exit 0), [2, 3, 7, 8], [.lp 2 0, .lp 3 0, .one .ref, .one .ref], [2, 3], [.cells [.str, .ref], .cells [.str, (.int .i64), (.int .i64), .ref]]⟩], L119_0 N⟩), (10, ⟨⟨.normal, [2, 3, 7, 8, 10], [.lp 2 0, .lp 3 0, .one .ref, .one .ref, .one (.int .i64)], [2, 3], [.cells [.str, .ref], .cells [.str, (.int .i64), (.int .i64), .ref]]⟩, [⟨(.exit 2), [2, 3, 7, 8, 10], [.lp 2 0, .lp 3 0, .one .ref, .one .ref, .one (.int .i64)], [2, 3], [.cells [.str, .ref], .cells [.str, (.int .i64), (.int .i64), .ref]]⟩], L119_1 N⟩), (21, ⟨⟨.normal, [2, 3, 7, 8, 10, 14, 15, 101, 102, 103], [.lp 2 0, .lp 3 0, .one .ref, .one .ref, .one (.int .i64), .one (.int .i64), .one (.int .i64), .one .ref, .one (.int .i64), .one (.int .i64)], [2, 3], [.cells [.str, .ref], .cells [.str, (.int .i64), (.int .i64), .ref]]⟩, [⟨(.exit 4), [2, 3, 7, 8, 15], [.lp 2 0, .lp 3 0, .one .ref, .one .ref, .one (.int .i64)], [2, 3], [.cells [.str, .ref], .cells [.str, (.int .i64), (.int .i64), .ref]]⟩, ⟨.ret, [4, 5, 6], [.one .ref, .one (.int .i64), .one (.int .i64)], [], []⟩], L119_2 N⟩), (1000000, ⟨⟨.normal, [2, 3, 7, 8, 10], [.lp 2 0, .lp 3 0, .one .ref, .one .ref, .one (.int .i64)], [2, 3], [.cells [.str, .ref], .cells [.str, (.int .i64), (.int .i64), .ref]]⟩, [⟨.ret, [4, 5, 6], [.one .ref, .one (.int .i64), .one (.int .i64)], [], []⟩], L119_3 N⟩)], natTab []⟩
theorem l119_0 (N : Nat) : ∀ A, (e119 N).lp (lid (loopAt Tryz.f119 1)) = some A → LoopOk (e119 N) N (loopAt Tryz.f119 1) A :=
  loopOk_of (A := ⟨⟨.normal, [2, 3, 7, 8, 27, 28], [.lp 2 0, .lp 3 0, .one .ref, .one .ref, .one (.int .i64), .one (.int .i64)], [2, 3], [.cells [.str, .ref], .cells [.str, (.int .i64), (.int .i64), .ref]]⟩, [⟨(.exit 0), [2, 3, 7, 8], [.lp 2 0, .lp 3 0, .one .ref, .one .ref], [2, 3], [.cells [.str, .ref], .cells [.str, (.int .i64), (.int .i64), .ref]]⟩], L119_0 N⟩) (by kernel_rfl) (fun _ => rfl) (fun _ _ => by kernel_rfl)
theorem l119_1 (N : Nat) : ∀ A, (e119 N).lp (lid (loopAt Tryz.f119 2)) = some A → LoopOk (e119 N) N (loopAt Tryz.f119 2) A :=
  loopOk_of (A := ⟨⟨.normal, [2, 3, 7, 8, 10], [.lp 2 0, .lp 3 0, .one .ref, .one .ref, .one (.int .i64)], [2, 3], [.cells [.str, .ref], .cells [.str, (.int .i64), (.int .i64), .ref]]⟩, [⟨(.exit 2), [2, 3, 7, 8, 10], [.lp 2 0, .lp 3 0, .one .ref, .one .ref, .one (.int .i64)], [2, 3], [.cells [.str, .ref], .cells [.str, (.int .i64), (.int .i64), .ref]]⟩], L119_1 N⟩) (by kernel_rfl) (fun _ => rfl) (fun _ _ => by kernel_rfl)
theorem l119_2 (N : Nat) : ∀ A, (e119 N).lp (lid (loopAt Tryz.f119 3)) = some A → LoopOk (e119 N) N (loopAt Tryz.f119 3) A :=
  loopOk_of (A := ⟨⟨.normal, [2, 3, 7, 8, 10, 14, 15, 101, 102, 103], [.lp 2 0, .lp 3 0, .one .ref, .one .ref, .one (.int .i64), .one (.int .i64), .one (.int .i64), .one .ref, .one (.int .i64), .one (.int .i64)], [2, 3], [.cells [.str, .ref], .cells [.str, (.int .i64), (.int .i64), .ref]]⟩, [⟨(.exit 4), [2, 3, 7, 8, 15], [.lp 2 0, .lp 3 0, .one .ref, .one .ref, .one (.int .i64)], [2, 3], [.cells [.str, .ref], .cells [.str, (.int .i64), (.int .i64), .ref]]⟩, ⟨.ret, [4, 5, 6], [.one .ref, .one (.int .i64), .one (.int .i64)], [], []⟩], L119_2 N⟩) (by kernel_rfl) (fun _ => rfl) (fun _ _ => by kernel_rfl)
theorem l119_3 (N : Nat) : ∀ A, (e119 N).lp (lbKey 0) = some A → LabelOk (e119 N) N 0 (loopAt Tryz.f119 0) A :=
  labelOk_of (A := ⟨⟨.normal, [2, 3, 7, 8, 10], [.lp 2 0, .lp 3 0, .one .ref, .one .ref, .one (.int .i64)], [2, 3], [.cells [.str, .ref], .cells [.str, (.int .i64), (.int .i64), .ref]]⟩, [⟨.ret, [4, 5, 6], [.one .ref, .one (.int .i64), .one (.int .i64)], [], []⟩], L119_3 N⟩) (by kernel_rfl) (fun _ => rfl) (fun _ _ => by kernel_rfl)
theorem fine119 (N : Nat) : Fine (e119 N) N 119 Tryz.f119 ks119 rs119 (F119 N) :=
  ⟨Tryz.func119, by kernel_rfl, by kernel_rfl, by kernel_rfl, loops_of ⟨l119_3 N, ⟨l119_0 N, ⟨l119_1 N, ⟨l119_2 N, trivial⟩⟩⟩⟩, by kernel_rfl, by kernel_rfl, fun _ => by kernel_rfl⟩
theorem good119 (N : Nat) : Go.L.Good (e119 N) := good_of ⟨gd43 N, ⟨gd175 N, trivial⟩⟩
theorem gd119 (N : Nat) : CalOk Tryz.prog 119 (.full (mkFun ks119 rs119 (F119 N))) := mkFun_good (fine119 N) (good119 N)

/-! ### 56: code.Check -/
noncomputable def L56_0 (N : Nat) : Nat → Int × Int × ByteArray × V × H → Option ((ByteArray × V × H) ⊕ (Int × Int × Int × H))
  | 0, _ => none
  | n + 1, (x17, x18, x19, x20, h21) =>
    (if (decide (x18 < x17)) = true then (
    (F117 N (x19, x20, x18, h21)).bind fun (x22, h23) =>
    (if (!x22) = true then (
    some (.inr (60, x18, 0, h23)))
    else (
    L56_0 N n (x17, (IntKind.i64.wrap (x18 + 1)), x19, x20, h23))))
    else (
    some (.inl (x19, x20, h21))))
noncomputable def L56_1 (N : Nat) : Nat → V × Int × Int × ByteArray × V × H → Option ((ByteArray × V × H) ⊕ (Int × Int × Int × H))
  | 0, _ => none
  | n + 1, (x43, x44, x45, x46, x47, h48) =>
    (if (decide (x45 < x44)) = true then (
    (sidx x43 x45 4).bind fun q49 =>
    (L.asStr (rd h48 q49 0)).bind fun x50 =>
    (L.asInt .i64 (rd h48 q49 1)).bind fun x51 =>
    (L.asInt .i64 (rd h48 q49 2)).bind fun x52 =>
    ((rd h48 q49 3)).bind fun x53 =>
    (F118 N (x46, x47, x50, x51, x52, x53, h48)).bind fun (x54, x55, h56) =>
    (if (x54 != 0) = true then (
    some (.inr (x54, x45, x55, h56)))
    else (
    L56_1 N n (x43, x44, (IntKind.i64.wrap (x45 + 1)), x46, x47, h56))))
    else (
    some (.inl (x46, x47, h48))))
noncomputable def L56_2 (N : Nat) : Nat → V × Int × Int × ByteArray × V × H → Option ((H) ⊕ (Int × Int × Int × H))
  | 0, _ => none
  | n + 1, (x77, x78, x79, x80, x81, h82) =>
    (if (decide (x79 < x78)) = true then (
    (sidx x77 x79 4).bind fun q83 =>
    (L.asStr (rd h82 q83 0)).bind fun x84 =>
    (L.asInt .i64 (rd h82 q83 1)).bind fun x85 =>
    (L.asInt .i64 (rd h82 q83 2)).bind fun x86 =>
    ((rd h82 q83 3)).bind fun x87 =>
    (F119 N (x80, x81, x84, x85, x86, x87, h82)).bind fun (x88, x89, x90, h91) =>
    (if (x89 != 0) = true then (
    some (.inr (x89, x79, x90, h91)))
    else (
    L56_2 N n (x77, x78, (IntKind.i64.wrap (x79 + 1)), x80, x81, h91))))
    else (
    some (.inl h82)))
noncomputable def F56 (N : Nat) : ByteArray × V × H → Option (Int × Int × Int × H)
  | (a0_0, a0_1, h) =>
    (F116 N (a0_0, h)).bind fun (x1, h2) =>
    (if (!x1) = true then (
    some (true, h2))
    else (
    (slen a0_1).bind fun n5 =>
    some ((decide (n5 < 1)), h2))).bind fun (b3, h4) =>
    (if b3 = true then (
    some (true, h4))
    else (
    (slen a0_1).bind fun n8 =>
    some ((decide (n8 > 64)), h4))).bind fun (b6, h7) =>
    (if b6 = true then (
    some (60, 0, 0, h7))
    else (
    (slen a0_1).bind fun n9 =>
    (L56_0 N N (n9, 0, a0_0, a0_1, h7)).bind fun o24 => match o24 with
    | .inl (x25, x26, h27) => (
    (slen x26).bind fun n28 =>
    (L56_1 N N (x26, n28, 0, x25, x26, h27)).bind fun o57 => match o57 with
    | .inl (x58, x59, h60) => (
    (slen x59).bind fun n61 =>
    (L56_2 N N (x59, n61, 0, x58, x59, h60)).bind fun o92 => match o92 with
    | .inl h93 => (
    some (0, 0, 0, h93))
    | .inr (x94, x95, x96, h97) => (
    some (x94, x95, x96, h97)))
    | .inr (x98, x99, x100, h101) => (
    some (x98, x99, x100, h101)))
    | .inr (x102, x103, x104, h105) => (
    some (x102, x103, x104, h105))))
abbrev ks56 : List SK := [.agg [.str, .ref]]
abbrev rs56 : List SK := [.one (.int .i64), .one (.int .i64), .one (.int .i64)]
noncomputable def e56 (N : Nat) : Env := ⟨Tryz.prog, 84, inTab [1, 7, 11], inTab [], natTab [(1, 1), (7, 7), (11, 11), (15, 1), (20, 1), (26, 1), (31, 1), (43, 1), (63, 1)], inTab [], calTab [(116, .full (mkFun ks116 rs116 (F116 N))), (117, .full (mkFun ks117 rs117 (F117 N))), (118, .full (mkFun ks118 rs118 (F118 N))), (119, .full (mkFun ks119 rs119 (F119 N)))], altTab [], loopTab [(4, ⟨⟨.normal, [1, 33, 34], [.lp 1 0, .one (.int .i64), .one (.int .i64)], [1], [.cells [.str, .ref]]⟩, [⟨(.exit 0), [1], [.lp 1 0], [1], [.cells [.str, .ref]]⟩, ⟨.ret, [2, 3, 4], [.one (.int .i64), .one (.int .i64), .one (.int .i64)], [], []⟩], L56_0 N⟩), (10, ⟨⟨.normal, [1, 44, 45, 46], [.lp 1 0, .one .ref, .one (.int .i64), .one (.int .i64)], [1], [.cells [.str, .ref]]⟩, [⟨(.exit 2), [1], [.lp 1 0], [1], [.cells [.str, .ref]]⟩, ⟨.ret, [2, 3, 4], [.one (.int .i64), .one (.int .i64), .one (.int .i64)], [], []⟩], L56_1 N⟩), (17, ⟨⟨.normal, [1, 64, 65, 66], [.lp 1 0, .one .ref, .one (.int .i64), .one (.int .i64)], [1], [.cells [.str, .ref]]⟩, [⟨(.exit 4), [], [], [], []⟩, ⟨.ret, [2, 3, 4], [.one (.int .i64), .one (.int .i64), .one (.int .i64)], [], []⟩], L56_2 N⟩)], natTab []⟩
theorem l56_0 (N : Nat) : ∀ A, (e56 N).lp (lid (loopAt Tryz.f56 0)) = some A → LoopOk (e56 N) N (loopAt Tryz.f56 0) A :=
  loopOk_of (A := ⟨⟨.normal, [1, 33, 34], [.lp 1 0, .one (.int .i64), .one (.int .i64)], [1], [.cells [.str, .ref]]⟩, [⟨(.exit 0), [1], [.lp 1 0], [1], [.cells [.str, .ref]]⟩, ⟨.ret, [2, 3, 4], [.one (.int .i64), .one (.int .i64), .one (.int .i64)], [], []⟩], L56_0 N⟩) (by kernel_rfl) (fun _ => rfl) (fun _ _ => by kernel_rfl)
theorem l56_1 (N : Nat) : ∀ A, (e56 N).lp (lid (loopAt Tryz.f56 1)) = some A → LoopOk (e56 N) N (loopAt Tryz.f56 1) A :=
  loopOk_of (A := ⟨⟨.normal, [1, 44, 45, 46], [.lp 1 0, .one .ref, .one (.int .i64), .one (.int .i64)], [1], [.cells [.str, .ref]]⟩, [⟨(.exit 2), [1], [.lp 1 0], [1], [.cells [.str, .ref]]⟩, ⟨.ret, [2, 3, 4], [.one (.int .i64), .one (.int .i64), .one (.int .i64)], [], []⟩], L56_1 N⟩) (by kernel_rfl) (fun _ => rfl) (fun _ _ => by kernel_rfl)
theorem l56_2 (N : Nat) : ∀ A, (e56 N).lp (lid (loopAt Tryz.f56 2)) = some A → LoopOk (e56 N) N (loopAt Tryz.f56 2) A :=
  loopOk_of (A := ⟨⟨.normal, [1, 64, 65, 66], [.lp 1 0, .one .ref, .one (.int .i64), .one (.int .i64)], [1], [.cells [.str, .ref]]⟩, [⟨(.exit 4), [], [], [], []⟩, ⟨.ret, [2, 3, 4], [.one (.int .i64), .one (.int .i64), .one (.int .i64)], [], []⟩], L56_2 N⟩) (by kernel_rfl) (fun _ => rfl) (fun _ _ => by kernel_rfl)
theorem fine56 (N : Nat) : Fine (e56 N) N 56 Tryz.f56 ks56 rs56 (F56 N) :=
  ⟨Tryz.func56, by kernel_rfl, by kernel_rfl, by kernel_rfl, loops_of ⟨l56_0 N, ⟨l56_1 N, ⟨l56_2 N, trivial⟩⟩⟩, by kernel_rfl, by kernel_rfl, fun _ => by kernel_rfl⟩
theorem good56 (N : Nat) : Go.L.Good (e56 N) := good_of ⟨gd116 N, ⟨gd117 N, ⟨gd118 N, ⟨gd119 N, trivial⟩⟩⟩⟩
theorem gd56 (N : Nat) : CalOk Tryz.prog 56 (.full (mkFun ks56 rs56 (F56 N))) := mkFun_good (fine56 N) (good56 N)

/-! ### 57: frame.New -/
noncomputable def F57 (N : Nat) : H → Option (V × H)
  | h =>
    (some (h ++ [O.cells 0 [(.bool true), .nils, .nils]]) : Option H).bind fun h1 =>
    some ((.ptr (h).length 0 0), h1)
abbrev ks57 : List SK := []
abbrev rs57 : List SK := [.one .ref]
noncomputable def e57 (N : Nat) : Env := ⟨Tryz.prog, 3, inTab [], inTab [], natTab [], inTab [], calTab [], altTab [], loopTab [], natTab []⟩
theorem fine57 (N : Nat) : Fine (e57 N) N 57 Tryz.f57 ks57 rs57 (F57 N) :=
  ⟨Tryz.func57, by kernel_rfl, by kernel_rfl, by kernel_rfl, loops_of trivial, by kernel_rfl, by kernel_rfl, fun _ => by kernel_rfl⟩
theorem good57 (N : Nat) : Go.L.Good (e57 N) := good_of trivial
theorem gd57 (N : Nat) : CalOk Tryz.prog 57 (.full (mkFun ks57 rs57 (F57 N))) := mkFun_good (fine57 N) (good57 N)

/-! ### 33: step.Begin -/
noncomputable def L33_0 (N : Nat) : Nat → Int × V × V × V × Int × Int × ByteArray × V × H → Option ((Int × V × V × ByteArray × V × H) ⊕ (V × Int × H))
  | 0, _ => none
  | n + 1, (x33, x34, x35, x36, x37, x38, x39, x40, h41) =>
    (if (decide (x38 < x37)) = true then (
    (sidx x36 x38 7).bind fun q42 =>
    (L.asInt .i64 (rd h41 q42 0)).bind fun x43 =>
    (L.asInt .i64 (rd h41 q42 1)).bind fun x44 =>
    (L.asCplx .f64 (rd h41 q42 2)).bind fun x45 =>
    (L.asStr (rd h41 q42 3)).bind fun x46 =>
    (L.asInt .i64 (rd h41 q42 4)).bind fun x47 =>
    (L.asInt .i64 (rd h41 q42 5)).bind fun x48 =>
    ((rd h41 q42 6)).bind fun x49 =>
    (F26 N (x35, x43, x44, (x45.1, x45.2), x46, x47, x48, x49, h41)).bind fun (x50, h51) =>
    (if (x50 != 0) = true then (
    some (.inr (.nilp, x50, h51)))
    else (
    L33_0 N n (x33, x34, x35, x36, x37, (IntKind.i64.wrap (x38 + 1)), x39, x40, h51))))
    else (
    some (.inl (x33, x34, x35, x39, x40, h41))))
noncomputable def F33 (N : Nat) : ByteArray × V × Int × V × H → Option (V × Int × H)
  | (a0_0, a0_1, a1, a2, h) =>
    (F56 N (a0_0, a0_1, h)).bind fun (x1, x2, x3, h4) =>
    (if (x1 != 0) = true then (
    some (.nilp, x1, h4))
    else (
    (if (decide (a1 < 0)) = true then (
    some (true, h4))
    else (
    (slen a0_1).bind fun n7 =>
    some ((decide (a1 ≥ n7)), h4))).bind fun (b5, h6) =>
    (if b5 = true then (
    some (.nilp, 3, h6))
    else (
    (slen a2).bind fun n8 =>
    (sidx a0_1 a1 4).bind fun q9 =>
    (L.asInt .i64 (rd h6 (padd q9 1) 0)).bind fun x10 =>
    (if (n8 != x10) = true then (
    some (.nilp, 1, h6))
    else (
    (F57 N h6).bind fun (x11, h12) =>
    (slen a2).bind fun n13 =>
    (L33_0 N N (a1, a2, x11, a2, n13, 0, a0_0, a0_1, h12)).bind fun o52 => match o52 with
    | .inl (x53, x54, x55, x56, x57, h58) => (
    (slen x54).bind fun n59 =>
    (sidx x57 x53 4).bind fun q60 =>
    (L.asInt .i64 (rd h58 (padd q60 2) 0)).bind fun x61 =>
    (F58 N (x55, x53, n59, x61, h58)).bind fun (x62, h63) =>
    (if (x62 != 0) = true then (
    some (.nilp, x62, h63))
    else (
    some (x55, 0, h63))))
    | .inr (x64, x65, h66) => (
    some (x64, x65, h66))))))))
abbrev ks33 : List SK := [.agg [.str, .ref], .one (.int .i64), .one .ref]
abbrev rs33 : List SK := [.one .ref, .one (.int .i64)]
noncomputable def e33 (N : Nat) : Env := ⟨Tryz.prog, 74, inTab [3, 13], inTab [], natTab [(3, 3), (13, 13), (30, 3), (38, 3), (63, 3)], inTab [], calTab [(56, .full (mkFun ks56 rs56 (F56 N))), (57, .full (mkFun ks57 rs57 (F57 N))), (26, .full (mkFun ks26 rs26 (F26 N))), (58, .full (mkFun ks58 rs58 (F58 N)))], altTab [], loopTab [(10, ⟨⟨.normal, [1, 2, 3, 11, 46, 47, 48], [.one (.int .i64), .one .ref, .lp 3 0, .one .ref, .one .ref, .one (.int .i64), .one (.int .i64)], [3], [.cells [.str, .ref]]⟩, [⟨(.exit 1), [1, 2, 3, 11], [.one (.int .i64), .one .ref, .lp 3 0, .one .ref], [3], [.cells [.str, .ref]]⟩, ⟨.ret, [6, 7], [.one .ref, .one (.int .i64)], [], []⟩], L33_0 N⟩)], natTab []⟩
theorem l33_0 (N : Nat) : ∀ A, (e33 N).lp (lid (loopAt Tryz.f33 0)) = some A → LoopOk (e33 N) N (loopAt Tryz.f33 0) A :=
  loopOk_of (A := ⟨⟨.normal, [1, 2, 3, 11, 46, 47, 48], [.one (.int .i64), .one .ref, .lp 3 0, .one .ref, .one .ref, .one (.int .i64), .one (.int .i64)], [3], [.cells [.str, .ref]]⟩, [⟨(.exit 1), [1, 2, 3, 11], [.one (.int .i64), .one .ref, .lp 3 0, .one .ref], [3], [.cells [.str, .ref]]⟩, ⟨.ret, [6, 7], [.one .ref, .one (.int .i64)], [], []⟩], L33_0 N⟩) (by kernel_rfl) (fun _ => rfl) (fun _ _ => by kernel_rfl)
theorem fine33 (N : Nat) : Fine (e33 N) N 33 Tryz.f33 ks33 rs33 (F33 N) :=
  ⟨Tryz.func33, by kernel_rfl, by kernel_rfl, by kernel_rfl, loops_of ⟨l33_0 N, trivial⟩, by kernel_rfl, by kernel_rfl, fun _ => by kernel_rfl⟩
theorem good33 (N : Nat) : Go.L.Good (e33 N) := good_of ⟨gd56 N, ⟨gd57 N, ⟨gd26 N, ⟨gd58 N, trivial⟩⟩⟩⟩
theorem gd33 (N : Nat) : CalOk Tryz.prog 33 (.full (mkFun ks33 rs33 (F33 N))) := mkFun_good (fine33 N) (good33 N)

/-! ### 12: carousellaw10.awake -/
noncomputable def L12_0 (N : Nat) : Nat → V × Int × Int × H → Option ((V × Int × H) ⊕ (Bool × H))
  | 0, _ => none
  | n + 1, (x42, x43, x44, h45) =>
    (if (decide (x44 < 3)) = true then (
    (F6 N h45).bind fun (x46, x47, h48) =>
    (F5 N (x46, x47, x42, h48)).bind fun (x49, x50, x51, x52, x53, x54, x55, x56, x57, x58, x59, x60, x61, x62, x63, x64, x65, x66, x67, x68, x69, x70, h71) =>
    (if (x70 != 0) = true then (
    some (true, h71))
    else (
    some ((x49 != 1), h71))).bind fun (b72, h73) =>
    (if b72 = true then (
    some (.inr (false, h73)))
    else (
    L12_0 N n (x42, (IntKind.i64.wrap (x43 + x69)), (IntKind.i64.wrap (x44 + 1)), h73))))
    else (
    some (.inl (x42, x43, h45))))
noncomputable def F12 (N : Nat) : H → Option (Bool × H)
  | h =>
    (F6 N h).bind fun (x1, x2, h3) =>
    (F33 N (x1, x2, 0, .nils, h3)).bind fun (x4, x5, h6) =>
    (if (x5 != 0) = true then (
    some (true, h6))
    else (
    (isNil x4).bind fun b9 =>
    some (b9, h6))).bind fun (b7, h8) =>
    (if b7 = true then (
    some (false, h8))
    else (
    (L12_0 N N (x4, 0, 0, h8)).bind fun o74 => match o74 with
    | .inl (x75, x76, h77) => (
    (F34 N (x75, 0, h77)).bind fun (x78, x79, x80, x81, x82, x83, x84, x85, _) =>
    (if (x76 == 3) = true then (
    some ((x85 == 0), h77))
    else (
    some (false, h77))).bind fun (b86, h87) =>
    (if b86 = true then (
    (F23 N (3, h87)).bind fun (x90, x91, x92, x93, x94, x95, x96, _) =>
    (F8 N N (x78, x79, (x80.1, x80.2), x81, x82, x83, x84, x90, x91, (x92.1, x92.2), x93, x94, x95, x96, h87)).bind fun (x97, _) =>
    some (x97, h87))
    else (
    some (false, h87))).bind fun (b88, h89) =>
    (if b88 = true then (
    (F35 N (x75, h89)).bind fun (x100, _) =>
    some ((x100 == 1), h89))
    else (
    some (false, h89))).bind fun (b98, h99) =>
    (if b98 = true then (
    (F9 N (0, h99)).bind fun (x103, x104, x105, x106, x107, x108, x109, _) =>
    (F30 N ((ByteArray.mk #[110, 111, 114, 109, 97, 108]), h99)).bind fun (x110, x111, x112, x113, x114, x115, x116, _) =>
    (F8 N N (x103, x104, (x105.1, x105.2), x106, x107, x108, x109, x110, x111, (x112.1, x112.2), x113, x114, x115, x116, h99)).bind fun (x117, _) =>
    some (x117, h99))
    else (
    some (false, h99))).bind fun (b101, h102) =>
    some (b101, h102))
    | .inr (x118, h119) => (
    some (x118, h119))))
abbrev ks12 : List SK := []
abbrev rs12 : List SK := [.one .bool]
noncomputable def e12 (N : Nat) : Env := ⟨Tryz.prog, 68, inTab [5, 8], inTab [], natTab [(5, 5), (8, 8), (35, 5)], inTab [], calTab [(6, .full (mkFun ks6 rs6 (F6 N))), (33, .full (mkFun ks33 rs33 (F33 N))), (5, .full (mkFun ks5 rs5 (F5 N))), (34, .ro (mkFun ks34 rs34 (F34 N))), (23, .ro (mkFun ks23 rs23 (F23 N))), (8, .ro (mkFun ks8 rs8 (F8 N N))), (35, .ro (mkFun ks35 rs35 (F35 N))), (9, .ro (mkFun ks9 rs9 (F9 N))), (30, .ro (mkFun ks30 rs30 (F30 N)))], altTab [], loopTab [(6, ⟨⟨.normal, [1, 3, 4], [.one .ref, .one (.int .i64), .one (.int .i64)], [], []⟩, [⟨(.exit 0), [1, 3], [.one .ref, .one (.int .i64)], [], []⟩, ⟨.ret, [0], [.one .bool], [], []⟩], L12_0 N⟩)], natTab []⟩
theorem l12_0 (N : Nat) : ∀ A, (e12 N).lp (lid (loopAt Tryz.f12 0)) = some A → LoopOk (e12 N) N (loopAt Tryz.f12 0) A :=
  loopOk_of (A := ⟨⟨.normal, [1, 3, 4], [.one .ref, .one (.int .i64), .one (.int .i64)], [], []⟩, [⟨(.exit 0), [1, 3], [.one .ref, .one (.int .i64)], [], []⟩, ⟨.ret, [0], [.one .bool], [], []⟩], L12_0 N⟩) (by kernel_rfl) (fun _ => rfl) (fun _ _ => by kernel_rfl)
theorem lk12 (N : Nat) (g0 : H → Option (ByteArray × V × H)) (g1 : ByteArray × V × Int × V × H → Option (V × Int × H)) (g2 : ByteArray × V × V × H → Option (Int × Int × Int × (Nat × Nat) × ByteArray × Int × Int × V × Int × Int × (Nat × Nat) × ByteArray × Int × Int × V × V × Int × Int × Int × V × Int × Int × H)) (g3 : V × Int × H → Option (Int × Int × (Nat × Nat) × ByteArray × Int × Int × V × Int × H)) (g4 : Int × H → Option (Int × Int × (Nat × Nat) × ByteArray × Int × Int × V × H)) (g5 : Int × Int × (Nat × Nat) × ByteArray × Int × Int × V × Int × Int × (Nat × Nat) × ByteArray × Int × Int × V × H → Option (Bool × H)) (g6 : V × H → Option (Int × H)) (g7 : Int × H → Option (Int × Int × (Nat × Nat) × ByteArray × Int × Int × V × H)) (g8 : ByteArray × H → Option (Int × Int × (Nat × Nat) × ByteArray × Int × Int × V × H)) (g9 : Nat → V × Int × Int × H → Option ((V × Int × H) ⊕ (Bool × H))) (h : H) :
    ((g0 h).bind fun (x1, x2, h3) =>
(g1 (x1, x2, 0, .nils, h3)).bind fun (x4, x5, h6) =>
(if (x5 != 0) = true then (
some (true, h6))
else (
(isNil x4).bind fun b9 =>
some (b9, h6))).bind fun (b7, h8) =>
(if b7 = true then (
some (false, h8))
else (
(g9 N (x4, 0, 0, h8)).bind fun o74 => match o74 with
| .inl (x75, x76, h77) => (
(g3 (x75, 0, h77)).bind fun (x78, x79, x80, x81, x82, x83, x84, x85, _) =>
(if (x76 == 3) = true then (
some ((x85 == 0), h77))
else (
some (false, h77))).bind fun (b86, h87) =>
(if b86 = true then (
(g4 (3, h87)).bind fun (x90, x91, x92, x93, x94, x95, x96, _) =>
(g5 (x78, x79, (x80.1, x80.2), x81, x82, x83, x84, x90, x91, (x92.1, x92.2), x93, x94, x95, x96, h87)).bind fun (x97, _) =>
some (x97, h87))
else (
some (false, h87))).bind fun (b88, h89) =>
(if b88 = true then (
(g6 (x75, h89)).bind fun (x100, _) =>
some ((x100 == 1), h89))
else (
some (false, h89))).bind fun (b98, h99) =>
(if b98 = true then (
(g7 (0, h99)).bind fun (x103, x104, x105, x106, x107, x108, x109, _) =>
(g8 ((ByteArray.mk #[110, 111, 114, 109, 97, 108]), h99)).bind fun (x110, x111, x112, x113, x114, x115, x116, _) =>
(g5 (x103, x104, (x105.1, x105.2), x106, x107, x108, x109, x110, x111, (x112.1, x112.2), x113, x114, x115, x116, h99)).bind fun (x117, _) =>
some (x117, h99))
else (
some (false, h99))).bind fun (b101, h102) =>
some (b101, h102))
| .inr (x118, h119) => (
some (x118, h119))))) = evFT ⟨Tryz.prog, 68, inTab [5, 8], inTab [], natTab [(5, 5), (8, 8), (35, 5)], inTab [], calTab [(6, .full (mkFun ks6 rs6 (g0))), (33, .full (mkFun ks33 rs33 (g1))), (5, .full (mkFun ks5 rs5 (g2))), (34, .ro (mkFun ks34 rs34 (g3))), (23, .ro (mkFun ks23 rs23 (g4))), (8, .ro (mkFun ks8 rs8 (g5))), (35, .ro (mkFun ks35 rs35 (g6))), (9, .ro (mkFun ks9 rs9 (g7))), (30, .ro (mkFun ks30 rs30 (g8)))], altTab [], loopTab [(6, ⟨⟨.normal, [1, 3, 4], [.one .ref, .one (.int .i64), .one (.int .i64)], [], []⟩, [⟨(.exit 0), [1, 3], [.one .ref, .one (.int .i64)], [], []⟩, ⟨.ret, [0], [.one .bool], [], []⟩], g9⟩)], natTab []⟩ N Tryz.f12 ks12 rs12 h := by kernel_rfl
theorem fine12 (N : Nat) : Fine (e12 N) N 12 Tryz.f12 ks12 rs12 (F12 N) :=
  ⟨Tryz.func12, by kernel_rfl, by kernel_rfl, by kernel_rfl, loops_of ⟨l12_0 N, trivial⟩, by kernel_rfl, by kernel_rfl, fun h => lk12 N (F6 N) (F33 N) (F5 N) (F34 N) (F23 N) (F8 N N) (F35 N) (F9 N) (F30 N) (L12_0 N) h⟩
theorem good12 (N : Nat) : Go.L.Good (e12 N) := good_of ⟨gd6 N, ⟨gd33 N, ⟨gd5 N, ⟨gd34 N, ⟨gd23 N, ⟨gd8 N N, ⟨gd35 N, ⟨gd9 N, ⟨gd30 N, trivial⟩⟩⟩⟩⟩⟩⟩⟩⟩
theorem gd12 : CalOk Tryz.prog 12 (.pure (mkP ks12 rs12 (F12 100))) := mkP_good (fine12 100) (good12 100) (by kernel_rfl) (by kernel_rfl)

/-! ### 3: carousellaw10.StepReasons -/
noncomputable def F3 (N : Nat) : Int × H → Option (Bool × H)
  | (a0, h) =>
    (F6 N h).bind fun (x1, x2, h3) =>
    (F5 N (x1, x2, .nilp, h3)).bind fun (x4, x5, x6, x7, x8, x9, x10, x11, x12, x13, x14, x15, x16, x17, x18, x19, x20, x21, x22, x23, x24, x25, h26) =>
    (F6 N h26).bind fun (x27, x28, h29) =>
    (F7 N (x27, x28, .nilp, 2, 0, 0, (0, 0), (ByteArray.mk #[]), 0, 0, .nils, 0, 0, (0, 0), (ByteArray.mk #[]), 0, 0, .nils, .nils, 0, 0, 0, .nils, false, 0, 0, (0, 0), (ByteArray.mk #[]), 0, 0, .nils, 0, .nils, h29)).bind fun (x30, h31) =>
    (F6 N h31).bind fun (x32, x33, h34) =>
    (some (h34 ++ [O.cells 0 [(.bool false), .nils, .nils]]) : Option H).bind fun h35 =>
    (F7 N (x32, x33, (.ptr (h34).length 0 0), 2, 0, 0, (0, 0), (ByteArray.mk #[]), 0, 0, .nils, 0, 0, (0, 0), (ByteArray.mk #[]), 0, 0, .nils, .nils, 0, 0, 0, .nils, false, 0, 0, (0, 0), (ByteArray.mk #[]), 0, 0, .nils, 0, .nils, h35)).bind fun (x36, h37) =>
    (F9 N (a0, h37)).bind fun (x38, x39, x40, x41, x42, x43, x44, _) =>
    (F10 N (a0, h37)).bind fun (x45, x46, x47, x48, x49, x50, x51, _) =>
    (F8 N N (x38, x39, (x40.1, x40.2), x41, x42, x43, x44, x45, x46, (x47.1, x47.2), x48, x49, x50, x51, h37)).bind fun (x52, _) =>
    (if x52 = true then (
    some ((x25 == 1), h37))
    else (
    some (false, h37))).bind fun (b53, h54) =>
    (if b53 = true then (
    some ((x24 == 0), h54))
    else (
    some (false, h54))).bind fun (b55, h56) =>
    (if b55 = true then (
    (F11 N (x4, x5, x6, (x7.1, x7.2), x8, x9, x10, x11, x12, x13, (x14.1, x14.2), x15, x16, x17, x18, x19, x20, x21, x22, x23, 0, 0, 0, (0, 0), (ByteArray.mk #[]), 0, 0, .nils, 0, 0, (0, 0), (ByteArray.mk #[]), 0, 0, .nils, .nils, 0, 0, 0, .nils, h56)).bind fun (x59, h60) =>
    some (x59, h60))
    else (
    some (false, h56))).bind fun (b57, h58) =>
    (if b57 = true then (
    some ((x30 == 1), h58))
    else (
    some (false, h58))).bind fun (b61, h62) =>
    (if b61 = true then (
    some ((x36 == 1), h62))
    else (
    some (false, h62))).bind fun (b63, h64) =>
    (if b63 = true then (
    (F12 100 []).bind fun (x67, _) =>
    some (x67, h64))
    else (
    some (false, h64))).bind fun (b65, h66) =>
    some (b65, h66)
abbrev ks3 : List SK := [.one (.int .i64)]
abbrev rs3 : List SK := [.one .bool]
noncomputable def e3 (N : Nat) : Env := ⟨Tryz.prog, 55, inTab [4], inTab [], natTab [(4, 4)], inTab [], calTab [(6, .full (mkFun ks6 rs6 (F6 N))), (5, .full (mkFun ks5 rs5 (F5 N))), (7, .full (mkFun ks7 rs7 (F7 N))), (9, .ro (mkFun ks9 rs9 (F9 N))), (10, .ro (mkFun ks10 rs10 (F10 N))), (8, .ro (mkFun ks8 rs8 (F8 N N))), (11, .full (mkFun ks11 rs11 (F11 N))), (12, .pure (mkP ks12 rs12 (F12 100)))], altTab [], loopTab [], natTab []⟩
theorem fine3 (N : Nat) : Fine (e3 N) N 3 Tryz.f3 ks3 rs3 (F3 N) :=
  ⟨Tryz.func3, by kernel_rfl, by kernel_rfl, by kernel_rfl, loops_of trivial, by kernel_rfl, by kernel_rfl, fun _ => by kernel_rfl⟩
theorem good3 (N : Nat) : Go.L.Good (e3 N) := good_of ⟨gd6 N, ⟨gd5 N, ⟨gd7 N, ⟨gd9 N, ⟨gd10 N, ⟨gd8 N N, ⟨gd11 N, ⟨gd12, trivial⟩⟩⟩⟩⟩⟩⟩⟩
theorem gd3 (N : Nat) : CalOk Tryz.prog 3 (.full (mkFun ks3 rs3 (F3 N))) := mkFun_good (fine3 N) (good3 N)

end Go.Proofs.YtkhnngghmlpbeaaGreat
