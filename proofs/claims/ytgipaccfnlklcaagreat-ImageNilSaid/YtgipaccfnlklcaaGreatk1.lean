/- The functions that the law reaches, as plain ones (printed by gen.py). -/
import Derived.Test.YtgipaccfnlklcaaGreatt2
set_option linter.unusedVariables false
set_option maxRecDepth 100000
namespace Go.Proofs.YtgipaccfnlklcaaGreat
noncomputable section
open Go.L

/-! ### 7: image.Load -/
def F7 (N : Nat) : ByteArray × H → Option (V × Int × Int × H)
 | (a0, h) =>
 (F29 N (a0, h)).bind fun (x1, x2, x3, x4, x5, x6, x7, x8, x9, x10, x11, x12, x13, x14, x15, h16) =>
 (if (x14 != 0) = true then (
 some (.nilp, x14, x15, h16))
 else (
 (F33 N (x1, x2, x3, x4, x5, x6, x7, x8, x9, x10, x11, x12, x13, h16)).bind fun (x17, x18, h19) =>
 some (x17, x18, 0, h19)))
abbrev ks7 : List SK := [.one .str]
abbrev rs7 : List SK := [.one .ref, .one (.int .i64), .one (.int .i64)]
def e7 (N : Nat) : Env := ⟨Tryz.prog, 26, inTab [5], inTab [], natTab [(5, 5)], inTab [], calTab [(29, .full (mkFun ks29 rs29 (F29 N))), (33, .full (mkFun ks33 rs33 (F33 N)))], altTab [], loopTab [], natTab [], inTab []⟩
theorem fine7 (N : Nat) : Fine (e7 N) N 7 Tryz.f7 ks7 rs7 (F7 N) :=
  ⟨Tryz.func7, by kernel_rfl, by kernel_rfl, by kernel_rfl, loops_of trivial, by kernel_rfl, by kernel_rfl, fun _ => by kernel_rfl⟩
theorem good7 (N : Nat) : Go.L.Good (e7 N) := good_of ⟨gd29 N, ⟨gd33 N, trivial⟩⟩
theorem gd7 (N : Nat) : CalOk Tryz.prog 7 (.full (mkFun ks7 rs7 (F7 N))) := mkFun_good (fine7 N) (good7 N)
theorem gl7 (N : Nat) : CalOk Tryz.prog 7 (.full (mkFun ks7 rs7 (locF false ks7 rs7 (F7 N)))) := loc_full (gd7 N)


end
end Go.Proofs.YtgipaccfnlklcaaGreat
