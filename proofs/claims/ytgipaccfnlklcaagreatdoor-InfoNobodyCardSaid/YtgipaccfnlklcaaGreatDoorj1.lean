/- The functions that the law reaches, as plain ones (printed by gen.py). -/
import Derived.Test.YtgipaccfnlklcaaGreatDoort1
set_option linter.unusedVariables false
set_option maxRecDepth 100000
namespace Go.Proofs.YtgipaccfnlklcaaGreatDoor
noncomputable section
open Go.L

/-! ### 8: info.Center -/
def L8_0 (N : Nat) : Nat → V × Int × Int × List V × H → Option (List V × H)
 | 0, _ => none
 | n + 1, (x16, x17, x18, cs19, h20) =>
 (if (decide (x18 < x17)) = true then (
 (sidx x16 x18 11).bind fun q21 =>
 (rdN h20 q21 11).bind fun cs22 =>
 (if (cs22).length = 11 then (
 (if 0 + (cs22).length ≤ 11 then (
 (L.asInt .i64 (splice (List.replicate 11 (.int .i64 0)) 0 cs22)[0]?).bind fun x23 =>
 (if 0 ≤ (Int.tmod x23 4) then (if (Int.tmod x23 4) < 4 then (
 (L.asInt .i64 cs19[((0 + Int.toNat (Int.tmod x23 4) * 1) + 0)]?).bind fun x24 =>
 (L.asInt .i64 (splice (List.replicate 11 (.int .i64 0)) 0 cs22)[1]?).bind fun x25 =>
 (L.asInt .i64 (splice (List.replicate 11 (.int .i64 0)) 0 cs22)[2]?).bind fun x26 =>
 (L.asInt .i64 (splice (List.replicate 11 (.int .i64 0)) 0 cs22)[3]?).bind fun x27 =>
 (if 0 ≤ (Int.tmod x23 4) then (if (Int.tmod x23 4) < 4 then (
 (if (0 + Int.toNat (Int.tmod x23 4) * 1) + 1 ≤ (cs19).length then (
 L8_0 N n (x16, x17, (IntKind.i64.wrap (x18 + 1)), (splice cs19 (0 + Int.toNat (Int.tmod x23 4) * 1) [(.int .i64 (IntKind.i64.wrap (x24 + (IntKind.i64.wrap ((IntKind.i64.wrap (x25 + x26)) + x27)))))]), h20)) else none)) else none) else none)) else none) else none)) else none)) else none))
 else (
 some (cs19, h20)))
def F8 (N : Nat) : V × H → Option ((Nat × Nat) × H)
 | (a0, h) =>
 (F7 N (a0, h)).bind fun (x1, h2) =>
 (slen x1).bind fun n3 =>
 (L8_0 N N (x1, n3, 0, [(.int .i64 0), (.int .i64 0), (.int .i64 0), (.int .i64 0)], h2)).bind fun (cs28, h29) =>
 (L.asInt .i64 cs28[0]?).bind fun x30 =>
 (L.asInt .i64 cs28[2]?).bind fun x31 =>
 (L.asInt .i64 cs28[1]?).bind fun x32 =>
 (L.asInt .i64 cs28[3]?).bind fun x33 =>
 some (((FloatKind.f64.nearest (IntKind.i64.wrap (x30 - x31))), (FloatKind.f64.nearest (IntKind.i64.wrap (x32 - x33)))), h29)
abbrev ks8 : List SK := [.one .ref]
abbrev rs8 : List SK := [.one (.cplx .f64)]
def e8 (N : Nat) : Env := ⟨Tryz.prog, 49, inTab [3, 5], inTab [], natTab [(3, 3), (5, 5), (15, 5), (18, 3), (20, 5), (21, 5), (23, 5), (24, 5), (27, 5), (28, 5), (32, 3), (34, 3), (36, 3), (40, 3), (42, 3)], inTab [], calTab [(7, .full (mkFun ks7 rs7 (F7 N)))], altTab [], loopTab [(3, ⟨⟨.normal, [3, 9, 10, 11], [.lp 3 0, .one .ref, .one (.int .i64), .one (.int .i64)], [3], [.blk]⟩, [⟨(.exit 0), [3], [.lp 3 0], [3], [.blk]⟩], L8_0 N⟩)], natTab [], inTab []⟩
theorem l8_0 (N : Nat) : ∀ A, (e8 N).lp (lid (loopAt Tryz.f8 0)) = some A → LoopOk (e8 N) N (loopAt Tryz.f8 0) A :=
  loopOk_of (A := ⟨⟨.normal, [3, 9, 10, 11], [.lp 3 0, .one .ref, .one (.int .i64), .one (.int .i64)], [3], [.blk]⟩, [⟨(.exit 0), [3], [.lp 3 0], [3], [.blk]⟩], L8_0 N⟩) (by kernel_rfl) (fun _ => rfl) (fun _ _ => by kernel_rfl)
theorem fine8 (N : Nat) : Fine (e8 N) N 8 Tryz.f8 ks8 rs8 (F8 N) :=
  ⟨Tryz.func8, by kernel_rfl, by kernel_rfl, by kernel_rfl, loops_of ⟨l8_0 N, trivial⟩, by kernel_rfl, by kernel_rfl, fun _ => by kernel_rfl⟩
theorem good8 (N : Nat) : Go.L.Good (e8 N) := good_of ⟨gd7 N, trivial⟩
theorem gd8 (N : Nat) : CalOk Tryz.prog 8 (.full (mkFun ks8 rs8 (F8 N))) := mkFun_good (fine8 N) (good8 N)
theorem gl8 (N : Nat) : CalOk Tryz.prog 8 (.full (mkFun ks8 rs8 (locF false ks8 rs8 (F8 N)))) := loc_full (gd8 N)

/-! ### 9: info.Check -/
def F9 (N : Nat) : V × H → Option (Int × H)
 | (a0, h) =>
 (F11 N (a0, h)).bind fun (x1, _) =>
 (if (x1 == 0) = true then (
 some (1, h))
 else (
 Option.bind (α := (V × V × V × V × V × V × V × V × V × V × Int × Int × V × H)) (locF false ks18 rs18 (tabG ks18 rs18 TB18) ((a0, h) : V × H)) fun (x2, x3, x4, x5, x6, x7, x8, x9, x10, x11, x12, x13, x14, h15) =>
 Option.bind (α := (V × Int × H)) (locF false ks19 rs19 (tabG ks19 rs19 TB19) ((x2, x3, x4, x5, x6, x7, x8, x9, x10, x11, x12, x13, x14, h15) : V × V × V × V × V × V × V × V × V × V × Int × Int × V × H)) fun (x16, x17, h18) =>
 (if (x17 != 0) = true then (
 none)
 else (
 some (0, h18)))))
abbrev ks9 : List SK := [.one .ref]
abbrev rs9 : List SK := [.one (.int .i64)]
def e9 (N : Nat) : Env := ⟨Tryz.prog, 16, inTab [], inTab [], natTab [], inTab [], calTab [(11, .ro (mkFun ks11 rs11 (F11 N))), (18, .full (mkFun ks18 rs18 (locF false ks18 rs18 (tabG ks18 rs18 TB18)))), (19, .full (mkFun ks19 rs19 (locF false ks19 rs19 (tabG ks19 rs19 TB19))))], altTab [], loopTab [], natTab [], inTab [5]⟩
theorem fine9 (N : Nat) : Fine (e9 N) N 9 Tryz.f9 ks9 rs9 (F9 N) :=
  ⟨Tryz.func9, by kernel_rfl, by kernel_rfl, by kernel_rfl, loops_of trivial, by kernel_rfl, by kernel_rfl, fun _ => by kernel_rfl⟩
theorem good9 (N : Nat) : Go.L.Good (e9 N) := good_of ⟨gd11 N, ⟨gt18, ⟨gt19, trivial⟩⟩⟩
theorem gd9 (N : Nat) : CalOk Tryz.prog 9 (.full (mkFun ks9 rs9 (F9 N))) := mkFun_good (fine9 N) (good9 N)
theorem gl9 (N : Nat) : CalOk Tryz.prog 9 (.full (mkFun ks9 rs9 (locF false ks9 rs9 (F9 N)))) := loc_full (gd9 N)


end
end Go.Proofs.YtgipaccfnlklcaaGreatDoor
