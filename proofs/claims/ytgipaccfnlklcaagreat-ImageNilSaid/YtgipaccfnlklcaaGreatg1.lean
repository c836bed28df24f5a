/- The functions that the law reaches, as plain ones (printed by gen.py). -/
import Derived.Test.YtgipaccfnlklcaaGreatLD
import Derived.Test.YtgipaccfnlklcaaGreatProg
import Derived.KernelRfl
set_option linter.unusedVariables false
set_option maxRecDepth 100000
namespace Go.Proofs.YtgipaccfnlklcaaGreat
noncomputable section
open Go.L

/-! ### 172: wire.Reader).Fail -/
def F172 (N : Nat) : V × Int × H → Option (H)
 | (a0, a1, h) =>
 (nck a0).bind fun _ =>
 (L.asInt .i64 (rd h (padd a0 2) 0)).bind fun x1 =>
 (if (decide (x1 < 0)) = true then (
 (nck a0).bind fun _ =>
 (wr h (padd a0 2) [(.int .i64 a1)]).bind fun h2 =>
 some h2)
 else (
 some h))
abbrev ks172 : List SK := [.one .ref, .one (.int .i64)]
abbrev rs172 : List SK := []
def e172 (N : Nat) : Env := ⟨Tryz.prog, 13, inTab [], inTab [], natTab [], inTab [], calTab [], altTab [], loopTab [], natTab [], inTab []⟩
theorem fine172 (N : Nat) : Fine (e172 N) N 172 Tryz.f172 ks172 rs172 (F172 N) :=
  ⟨Tryz.func172, by kernel_rfl, by kernel_rfl, by kernel_rfl, loops_of trivial, by kernel_rfl, by kernel_rfl, fun _ => by kernel_rfl⟩
theorem good172 (N : Nat) : Go.L.Good (e172 N) := good_of trivial
theorem gd172 (N : Nat) : CalOk Tryz.prog 172 (.full (mkFun ks172 rs172 (F172 N))) := mkFun_good (fine172 N) (good172 N)

/-! ### 168: wire.Reader).Count -/
def L168_0 (N : Nat) : Nat → V × Int × Int × Int × H → Option (Int × H)
 | 0, _ => none
 | n + 1, (x26, x27, x28, x29, h30) =>
 (nck x26).bind fun _ =>
 (L.asInt .i64 (rd h30 (padd x26 2) 0)).bind fun x31 =>
 (if (decide (x31 ≥ 0)) = true then (
 some (0, h30))
 else (
 (nck x26).bind fun _ =>
 (L.asInt .i64 (rd h30 (padd x26 1) 0)).bind fun x32 =>
 (nck x26).bind fun _ =>
 (L.asStr (rd h30 (padd x26 0) 0)).bind fun x33 =>
 (if (decide (x32 ≥ ((x33).size : Int))) = true then (
 some (true, h30))
 else (
 some ((decide (x28 > 56)), h30))).bind fun (b34, h35) =>
 (if b34 = true then (
 (F172 N (x26, x27, h35)).bind fun h36 =>
 L168_0 N n (x26, x27, x28, x29, h36))
 else (
 (nck x26).bind fun _ =>
 (L.asStr (rd h35 (padd x26 0) 0)).bind fun x37 =>
 (nck x26).bind fun _ =>
 (L.asInt .i64 (rd h35 (padd x26 1) 0)).bind fun x38 =>
 (if 0 ≤ x38 then (x37[Int.toNat x38]?.bind fun c39 =>
 (nck x26).bind fun _ =>
 (L.asInt .i64 (rd h35 (padd x26 1) 0)).bind fun x40 =>
 (nck x26).bind fun _ =>
 (wr h35 (padd x26 1) [(.int .i64 (IntKind.i64.wrap (x40 + 1)))]).bind fun h41 =>
 (if x28 < 0 then none else (
 (if (decide (((UInt8.toNat c39 : Nat) : Int) ≥ 128)) = true then (
 L168_0 N n (x26, x27, (IntKind.i64.wrap (x28 + 7)), (IntKind.u64.wrap (((BitVec.ofInt IntKind.u64.bits x29) ||| (BitVec.ofInt IntKind.u64.bits (IntKind.u64.wrap ((IntKind.u64.wrap (IntKind.u8.wrap (((BitVec.ofInt IntKind.u8.bits ((UInt8.toNat c39 : Nat) : Int)) &&& (BitVec.ofInt IntKind.u8.bits 127)).toNat))) * 2 ^ (min (Int.toNat x28) IntKind.u64.bits))))).toNat)), h41))
 else (
 (if (((UInt8.toNat c39 : Nat) : Int) == 0) = true then (
 some ((decide (x28 > 0)), h41))
 else (
 some (false, h41))).bind fun (b42, h43) =>
 (if b42 = true then (
 none)
 else (
 some ((IntKind.i64.wrap (IntKind.u64.wrap (((BitVec.ofInt IntKind.u64.bits x29) ||| (BitVec.ofInt IntKind.u64.bits (IntKind.u64.wrap ((IntKind.u64.wrap (IntKind.u8.wrap (((BitVec.ofInt IntKind.u8.bits ((UInt8.toNat c39 : Nat) : Int)) &&& (BitVec.ofInt IntKind.u8.bits 127)).toNat))) * 2 ^ (min (Int.toNat x28) IntKind.u64.bits))))).toNat))), h43)))))))) else none)))))
def F168 (N : Nat) : V × H → Option (Int × H)
 | (a0, h) =>
 (nck a0).bind fun _ =>
 (L.asInt .i64 (rd h (padd a0 1) 0)).bind fun x1 =>
 (nck a0).bind fun _ =>
 (L.asInt .i64 (rd h (padd a0 2) 0)).bind fun x2 =>
 (if (decide (x2 ≥ 0)) = true then (
 some (0, h))
 else (
 (nck a0).bind fun _ =>
 (L.asInt .i64 (rd h (padd a0 1) 0)).bind fun x3 =>
 (nck a0).bind fun _ =>
 (L.asStr (rd h (padd a0 0) 0)).bind fun x4 =>
 (if (decide (x3 ≥ ((x4).size : Int))) = true then (
 some (true, h))
 else (
 some ((decide (0 > 56)), h))).bind fun (b5, h6) =>
 (if b5 = true then (
 (F172 N (a0, x1, h6)).bind fun h7 =>
 (L168_0 N N (a0, x1, 0, 0, h7)).bind fun (x44, h45) =>
 some (x44, h45))
 else (
 (nck a0).bind fun _ =>
 (L.asStr (rd h6 (padd a0 0) 0)).bind fun x46 =>
 (nck a0).bind fun _ =>
 (L.asInt .i64 (rd h6 (padd a0 1) 0)).bind fun x47 =>
 (if 0 ≤ x47 then (x46[Int.toNat x47]?.bind fun c48 =>
 (nck a0).bind fun _ =>
 (L.asInt .i64 (rd h6 (padd a0 1) 0)).bind fun x49 =>
 (nck a0).bind fun _ =>
 (wr h6 (padd a0 1) [(.int .i64 (IntKind.i64.wrap (x49 + 1)))]).bind fun h50 =>
 (if (decide (((UInt8.toNat c48 : Nat) : Int) ≥ 128)) = true then (
 (L168_0 N N (a0, x1, (IntKind.i64.wrap (0 + 7)), (IntKind.u64.wrap (((BitVec.ofInt IntKind.u64.bits 0) ||| (BitVec.ofInt IntKind.u64.bits (IntKind.u64.wrap ((IntKind.u64.wrap (IntKind.u8.wrap (((BitVec.ofInt IntKind.u8.bits ((UInt8.toNat c48 : Nat) : Int)) &&& (BitVec.ofInt IntKind.u8.bits 127)).toNat))) * 2 ^ (min (Int.toNat 0) IntKind.u64.bits))))).toNat)), h50)).bind fun (x51, h52) =>
 some (x51, h52))
 else (
 (if (((UInt8.toNat c48 : Nat) : Int) == 0) = true then (
 some ((decide (0 > 0)), h50))
 else (
 some (false, h50))).bind fun (b53, h54) =>
 (if b53 = true then (
 none)
 else (
 some ((IntKind.i64.wrap (IntKind.u64.wrap (((BitVec.ofInt IntKind.u64.bits 0) ||| (BitVec.ofInt IntKind.u64.bits (IntKind.u64.wrap ((IntKind.u64.wrap (IntKind.u8.wrap (((BitVec.ofInt IntKind.u8.bits ((UInt8.toNat c48 : Nat) : Int)) &&& (BitVec.ofInt IntKind.u8.bits 127)).toNat))) * 2 ^ (min (Int.toNat 0) IntKind.u64.bits))))).toNat))), h54)))))) else none)))))
abbrev ks168 : List SK := [.one .ref]
abbrev rs168 : List SK := [.one (.int .i64)]
def e168 (N : Nat) : Env := ⟨Tryz.prog, 71, inTab [], inTab [], natTab [], inTab [], calTab [(172, .full (mkFun ks172 rs172 (F172 N)))], altTab [], loopTab [(1000000, ⟨⟨.normal, [0, 3, 4, 5], [.one .ref, .one (.int .i64), .one (.int .i64), .one (.int .u64)], [], []⟩, [⟨.ret, [2], [.one (.int .i64)], [], []⟩], L168_0 N⟩)], natTab [], inTab [13]⟩
theorem l168_0 (N : Nat) : ∀ A, (e168 N).lp (lbKey 0) = some A → LabelOk (e168 N) N 0 (loopAt Tryz.f168 0) A :=
  labelOk_of (A := ⟨⟨.normal, [0, 3, 4, 5], [.one .ref, .one (.int .i64), .one (.int .i64), .one (.int .u64)], [], []⟩, [⟨.ret, [2], [.one (.int .i64)], [], []⟩], L168_0 N⟩) (by kernel_rfl) (fun _ => rfl) (fun _ _ => by kernel_rfl)
theorem fine168 (N : Nat) : Fine (e168 N) N 168 Tryz.f168 ks168 rs168 (F168 N) :=
  ⟨Tryz.func168, by kernel_rfl, by kernel_rfl, by kernel_rfl, loops_of ⟨l168_0 N, trivial⟩, by kernel_rfl, by kernel_rfl, fun _ => by kernel_rfl⟩
theorem good168 (N : Nat) : Go.L.Good (e168 N) := good_of ⟨gd172 N, trivial⟩
theorem gd168 (N : Nat) : CalOk Tryz.prog 168 (.full (mkFun ks168 rs168 (F168 N))) := mkFun_good (fine168 N) (good168 N)


end
end Go.Proofs.YtgipaccfnlklcaaGreat
