/- The functions that the law reaches, as plain ones (printed by gen.py). -/
import Derived.Test.YtgipaccfnlklcaaGreatG
set_option linter.unusedVariables false
set_option maxRecDepth 100000
namespace Go.Proofs.YtgipaccfnlklcaaGreat
noncomputable section
open Go.L

/-! ### 44: node.Node).lives -/
def F44 (N : Nat) : V × H → Option (Bool × H)
 | (a0, h) =>
 (isNil a0).bind fun b1 =>
 (if (!b1) = true then (
 (nck a0).bind fun _ =>
 ((rd h (padd a0 5) 0)).bind fun x4 =>
 (slen x4).bind fun n5 =>
 some ((decide (n5 > 0)), h))
 else (
 some (false, h))).bind fun (b2, h3) =>
 some (b2, h3)
abbrev ks44 : List SK := [.one .ref]
abbrev rs44 : List SK := [.one .bool]
def e44 (N : Nat) : Env := ⟨Tryz.prog, 13, inTab [], inTab [], natTab [], inTab [], calTab [], altTab [], loopTab [], natTab [], inTab []⟩
theorem fine44 (N : Nat) : Fine (e44 N) N 44 Tryz.f44 ks44 rs44 (F44 N) :=
  ⟨Tryz.func44, by kernel_rfl, by kernel_rfl, by kernel_rfl, loops_of trivial, by kernel_rfl, by kernel_rfl, fun _ => by kernel_rfl⟩
theorem good44 (N : Nat) : Go.L.Good (e44 N) := good_of trivial
theorem gd44 (N : Nat) : CalOk Tryz.prog 44 (.ro (mkFun ks44 rs44 (F44 N))) := mkFun_ro (fine44 N) (good44 N) (by kernel_rfl)

/-! ### 21: node.Node).Cores -/
def F21 (N : Nat) : V × H → Option (Int × H)
 | (a0, h) =>
 (F44 N (a0, h)).bind fun (x1, _) =>
 (if (!x1) = true then (
 some (0, h))
 else (
 (nck a0).bind fun _ =>
 ((rd h (padd a0 5) 0)).bind fun x2 =>
 (slen x2).bind fun n3 =>
 some (n3, h)))
abbrev ks21 : List SK := [.one .ref]
abbrev rs21 : List SK := [.one (.int .i64)]
def e21 (N : Nat) : Env := ⟨Tryz.prog, 11, inTab [], inTab [], natTab [], inTab [], calTab [(44, .ro (mkFun ks44 rs44 (F44 N)))], altTab [], loopTab [], natTab [], inTab []⟩
theorem fine21 (N : Nat) : Fine (e21 N) N 21 Tryz.f21 ks21 rs21 (F21 N) :=
  ⟨Tryz.func21, by kernel_rfl, by kernel_rfl, by kernel_rfl, loops_of trivial, by kernel_rfl, by kernel_rfl, fun _ => by kernel_rfl⟩
theorem good21 (N : Nat) : Go.L.Good (e21 N) := good_of ⟨gd44 N, trivial⟩
theorem gd21 (N : Nat) : CalOk Tryz.prog 21 (.ro (mkFun ks21 rs21 (F21 N))) := mkFun_ro (fine21 N) (good21 N) (by kernel_rfl)

/-! ### 47: slices.Clone[[]int,int] -/
def F47 (N : Nat) : V × H → Option (V × H)
 | (a0, h) =>
 (isNilS a0).bind fun b1 =>
 (if b1 = true then (
 none)
 else (
 (some (h ++ [O.cells 0 []]) : Option H).bind fun h2 =>
 (scells h2 a0 1).bind fun cs5 =>
 (happ h2 (.sl (h).length 0 0 0 1 (some 0)) 1 (snlen a0) cs5).bind fun (v3, h4) =>
 some (v3, h4)))
abbrev ks47 : List SK := [.one .ref]
abbrev rs47 : List SK := [.one .ref]
def e47 (N : Nat) : Env := ⟨Tryz.prog, 8, inTab [], inTab [], natTab [], inTab [], calTab [], altTab [], loopTab [], natTab [], inTab [2]⟩
theorem fine47 (N : Nat) : Fine (e47 N) N 47 Tryz.f47 ks47 rs47 (F47 N) :=
  ⟨Tryz.func47, by kernel_rfl, by kernel_rfl, by kernel_rfl, loops_of trivial, by kernel_rfl, by kernel_rfl, fun _ => by kernel_rfl⟩
theorem good47 (N : Nat) : Go.L.Good (e47 N) := good_of trivial
theorem gd47 (N : Nat) : CalOk Tryz.prog 47 (.full (mkFun ks47 rs47 (F47 N))) := mkFun_good (fine47 N) (good47 N)
theorem gl47 (N : Nat) : CalOk Tryz.prog 47 (.gro (mkFun ks47 rs47 (locF true ks47 rs47 (F47 N)))) := loc_gro (gd47 N)

/-! ### 48: node.modulesOf -/
def L48_0 (N : Nat) : Nat → V × Int × Int × H → Option (V × H)
 | 0, _ => none
 | n + 1, (x6, x7, x8, h9) =>
 (if (decide (x8 < x7)) = true then (
 none)
 else (
 some (x6, h9)))
def F48 (N : Nat) : V × H → Option (V × H)
 | (a0, h) =>
 (slen a0).bind fun n1 =>
 (L48_0 N N (.nils, n1, 0, h)).bind fun (x10, h11) =>
 some (x10, h11)
abbrev ks48 : List SK := [.one .ref]
abbrev rs48 : List SK := [.one .ref]
def e48 (N : Nat) : Env := ⟨Tryz.prog, 19, inTab [5, 15], inTab [], natTab [(5, 5)], inTab [], calTab [], altTab [], loopTab [(3, ⟨⟨.normal, [3, 7, 8], [.one .ref, .one (.int .i64), .one (.int .i64)], [], []⟩, [⟨(.exit 0), [3], [.one .ref], [], []⟩], L48_0 N⟩)], natTab [], inTab [4, 5, 6]⟩
theorem l48_0 (N : Nat) : ∀ A, (e48 N).lp (lid (loopAt Tryz.f48 0)) = some A → LoopOk (e48 N) N (loopAt Tryz.f48 0) A :=
  loopOk_of (A := ⟨⟨.normal, [3, 7, 8], [.one .ref, .one (.int .i64), .one (.int .i64)], [], []⟩, [⟨(.exit 0), [3], [.one .ref], [], []⟩], L48_0 N⟩) (by kernel_rfl) (fun _ => rfl) (fun _ _ => by kernel_rfl)
theorem fine48 (N : Nat) : Fine (e48 N) N 48 Tryz.f48 ks48 rs48 (F48 N) :=
  ⟨Tryz.func48, by kernel_rfl, by kernel_rfl, by kernel_rfl, loops_of ⟨l48_0 N, trivial⟩, by kernel_rfl, by kernel_rfl, fun _ => by kernel_rfl⟩
theorem good48 (N : Nat) : Go.L.Good (e48 N) := good_of trivial
theorem gd48 (N : Nat) : CalOk Tryz.prog 48 (.ro (mkFun ks48 rs48 (F48 N))) := mkFun_ro (fine48 N) (good48 N) (by kernel_rfl)

/-! ### 126: table.Table).given -/
def F126 (N : Nat) : V × H → Option (Bool × H)
 | (a0, h) =>
 (isNil a0).bind fun b1 =>
 (if (!b1) = true then (
 (nck a0).bind fun _ =>
 ((rd h (padd a0 0) 0)).bind fun x4 =>
 (slen x4).bind fun n5 =>
 some ((decide (n5 > 0)), h))
 else (
 some (false, h))).bind fun (b2, h3) =>
 some (b2, h3)
abbrev ks126 : List SK := [.one .ref]
abbrev rs126 : List SK := [.one .bool]
def e126 (N : Nat) : Env := ⟨Tryz.prog, 13, inTab [], inTab [], natTab [], inTab [], calTab [], altTab [], loopTab [], natTab [], inTab []⟩
theorem fine126 (N : Nat) : Fine (e126 N) N 126 Tryz.f126 ks126 rs126 (F126 N) :=
  ⟨Tryz.func126, by kernel_rfl, by kernel_rfl, by kernel_rfl, loops_of trivial, by kernel_rfl, by kernel_rfl, fun _ => by kernel_rfl⟩
theorem good126 (N : Nat) : Go.L.Good (e126 N) := good_of trivial
theorem gd126 (N : Nat) : CalOk Tryz.prog 126 (.ro (mkFun ks126 rs126 (F126 N))) := mkFun_ro (fine126 N) (good126 N) (by kernel_rfl)

/-! ### 49: table.Table).Gens -/
def L49_0 (N : Nat) : Nat → V × V × Int × Int × H → Option (V × H)
 | 0, _ => none
 | n + 1, (x15, x16, x17, x18, h19) =>
 (if (decide (x18 < x17)) = true then (
 (sidx x16 x18 3).bind fun q20 =>
 (L.asInt .i64 (rd h19 q20 0)).bind fun x21 =>
 (L.asBool (rd h19 q20 1)).bind fun x22 =>
 (L.asStr (rd h19 q20 2)).bind fun x23 =>
 (happ h19 x15 1 1 [(.int .i64 x21)]).bind fun (v24, h25) =>
 L49_0 N n (v24, x16, x17, (IntKind.i64.wrap (x18 + 1)), h25))
 else (
 some (x15, h19)))
def F49 (N : Nat) : V × H → Option (V × H)
 | (a0, h) =>
 (F126 N (a0, h)).bind fun (x1, _) =>
 (if (!x1) = true then (
 none)
 else (
 (nck a0).bind fun _ =>
 ((rd h (padd a0 0) 0)).bind fun x2 =>
 (slen x2).bind fun n3 =>
 (L49_0 N N (.nils, x2, n3, 0, h)).bind fun (x26, h27) =>
 some (x26, h27)))
abbrev ks49 : List SK := [.one .ref]
abbrev rs49 : List SK := [.one .ref]
def e49 (N : Nat) : Env := ⟨Tryz.prog, 25, inTab [5, 21], inTab [], natTab [(5, 5), (19, 5)], inTab [], calTab [(126, .ro (mkFun ks126 rs126 (F126 N)))], altTab [], loopTab [(5, ⟨⟨.normal, [3, 12, 13, 14], [.one .ref, .one .ref, .one (.int .i64), .one (.int .i64)], [], []⟩, [⟨(.exit 0), [3], [.one .ref], [], []⟩], L49_0 N⟩)], natTab [], inTab [2]⟩
theorem l49_0 (N : Nat) : ∀ A, (e49 N).lp (lid (loopAt Tryz.f49 0)) = some A → LoopOk (e49 N) N (loopAt Tryz.f49 0) A :=
  loopOk_of (A := ⟨⟨.normal, [3, 12, 13, 14], [.one .ref, .one .ref, .one (.int .i64), .one (.int .i64)], [], []⟩, [⟨(.exit 0), [3], [.one .ref], [], []⟩], L49_0 N⟩) (by kernel_rfl) (fun _ => rfl) (fun _ _ => by kernel_rfl)
theorem fine49 (N : Nat) : Fine (e49 N) N 49 Tryz.f49 ks49 rs49 (F49 N) :=
  ⟨Tryz.func49, by kernel_rfl, by kernel_rfl, by kernel_rfl, loops_of ⟨l49_0 N, trivial⟩, by kernel_rfl, by kernel_rfl, fun _ => by kernel_rfl⟩
theorem good49 (N : Nat) : Go.L.Good (e49 N) := good_of ⟨gd126 N, trivial⟩
theorem gd49 (N : Nat) : CalOk Tryz.prog 49 (.full (mkFun ks49 rs49 (F49 N))) := mkFun_good (fine49 N) (good49 N)

/-! ### 66: table.Table).Live -/
def L66_0 (N : Nat) : Nat → V × V × Int × Int × H → Option (V × H)
 | 0, _ => none
 | n + 1, (x13, x14, x15, x16, h17) =>
 (if (decide (x16 < x15)) = true then (
 (sidx x14 x16 3).bind fun q18 =>
 (L.asInt .i64 (rd h17 q18 0)).bind fun x19 =>
 (L.asBool (rd h17 q18 1)).bind fun x20 =>
 (L.asStr (rd h17 q18 2)).bind fun x21 =>
 (if x20 = true then (
 none)
 else (
 L66_0 N n (x13, x14, x15, (IntKind.i64.wrap (x16 + 1)), h17))))
 else (
 some (x13, h17)))
def F66 (N : Nat) : V × H → Option (V × H)
 | (a0, h) =>
 (F126 N (a0, h)).bind fun (x1, _) =>
 (if (!x1) = true then (
 none)
 else (
 (nck a0).bind fun _ =>
 ((rd h (padd a0 0) 0)).bind fun x2 =>
 (slen x2).bind fun n3 =>
 (L66_0 N N (.nils, x2, n3, 0, h)).bind fun (x22, h23) =>
 some (x22, h23)))
abbrev ks66 : List SK := [.one .ref]
abbrev rs66 : List SK := [.one .ref]
def e66 (N : Nat) : Env := ⟨Tryz.prog, 29, inTab [5, 25], inTab [], natTab [(5, 5), (19, 5)], inTab [], calTab [(126, .ro (mkFun ks126 rs126 (F126 N)))], altTab [], loopTab [(5, ⟨⟨.normal, [3, 12, 13, 14], [.one .ref, .one .ref, .one (.int .i64), .one (.int .i64)], [], []⟩, [⟨(.exit 0), [3], [.one .ref], [], []⟩], L66_0 N⟩)], natTab [], inTab [2, 8]⟩
theorem l66_0 (N : Nat) : ∀ A, (e66 N).lp (lid (loopAt Tryz.f66 0)) = some A → LoopOk (e66 N) N (loopAt Tryz.f66 0) A :=
  loopOk_of (A := ⟨⟨.normal, [3, 12, 13, 14], [.one .ref, .one .ref, .one (.int .i64), .one (.int .i64)], [], []⟩, [⟨(.exit 0), [3], [.one .ref], [], []⟩], L66_0 N⟩) (by kernel_rfl) (fun _ => rfl) (fun _ _ => by kernel_rfl)
theorem fine66 (N : Nat) : Fine (e66 N) N 66 Tryz.f66 ks66 rs66 (F66 N) :=
  ⟨Tryz.func66, by kernel_rfl, by kernel_rfl, by kernel_rfl, loops_of ⟨l66_0 N, trivial⟩, by kernel_rfl, by kernel_rfl, fun _ => by kernel_rfl⟩
theorem good66 (N : Nat) : Go.L.Good (e66 N) := good_of ⟨gd126 N, trivial⟩
theorem gd66 (N : Nat) : CalOk Tryz.prog 66 (.ro (mkFun ks66 rs66 (F66 N))) := mkFun_ro (fine66 N) (good66 N) (by kernel_rfl)

/-! ### 50: node.Node).all -/
def L50_0 (N : Nat) : Nat → V × Int × Int × H → Option (V × H)
 | 0, _ => none
 | n + 1, (x8, x9, x10, h11) =>
 (if (decide (x10 < x9)) = true then (
 none)
 else (
 some (x8, h11)))
def F50 (N : Nat) : V × H → Option (V × H)
 | (a0, h) =>
 (nck a0).bind fun _ =>
 ((rd h (padd a0 2) 0)).bind fun x1 =>
 (F66 N (x1, h)).bind fun (x2, _) =>
 (slen x2).bind fun n3 =>
 (L50_0 N N (.nils, n3, 0, h)).bind fun (x12, h13) =>
 some (x12, h13)
abbrev ks50 : List SK := [.one .ref]
abbrev rs50 : List SK := [.one .ref]
def e50 (N : Nat) : Env := ⟨Tryz.prog, 28, inTab [5, 24], inTab [], natTab [(5, 5), (21, 5)], inTab [], calTab [(66, .ro (mkFun ks66 rs66 (F66 N)))], altTab [], loopTab [(3, ⟨⟨.normal, [3, 11, 12], [.one .ref, .one (.int .i64), .one (.int .i64)], [], []⟩, [⟨(.exit 0), [3], [.one .ref], [], []⟩], L50_0 N⟩)], natTab [], inTab [4, 5, 6]⟩
theorem l50_0 (N : Nat) : ∀ A, (e50 N).lp (lid (loopAt Tryz.f50 0)) = some A → LoopOk (e50 N) N (loopAt Tryz.f50 0) A :=
  loopOk_of (A := ⟨⟨.normal, [3, 11, 12], [.one .ref, .one (.int .i64), .one (.int .i64)], [], []⟩, [⟨(.exit 0), [3], [.one .ref], [], []⟩], L50_0 N⟩) (by kernel_rfl) (fun _ => rfl) (fun _ _ => by kernel_rfl)
theorem fine50 (N : Nat) : Fine (e50 N) N 50 Tryz.f50 ks50 rs50 (F50 N) :=
  ⟨Tryz.func50, by kernel_rfl, by kernel_rfl, by kernel_rfl, loops_of ⟨l50_0 N, trivial⟩, by kernel_rfl, by kernel_rfl, fun _ => by kernel_rfl⟩
theorem good50 (N : Nat) : Go.L.Good (e50 N) := good_of ⟨gd66 N, trivial⟩
theorem gd50 (N : Nat) : CalOk Tryz.prog 50 (.ro (mkFun ks50 rs50 (F50 N))) := mkFun_ro (fine50 N) (good50 N) (by kernel_rfl)

/-! ### 129: core.Core).given -/
def F129 (N : Nat) : V × H → Option (Bool × H)
 | (a0, h) =>
 (isNil a0).bind fun b1 =>
 (if (!b1) = true then (
 (nck a0).bind fun _ =>
 ((rd h (padd a0 0) 0)).bind fun x4 =>
 (slen x4).bind fun n5 =>
 some ((decide (n5 > 0)), h))
 else (
 some (false, h))).bind fun (b2, h3) =>
 some (b2, h3)
abbrev ks129 : List SK := [.one .ref]
abbrev rs129 : List SK := [.one .bool]
def e129 (N : Nat) : Env := ⟨Tryz.prog, 13, inTab [], inTab [], natTab [], inTab [], calTab [], altTab [], loopTab [], natTab [], inTab []⟩
theorem fine129 (N : Nat) : Fine (e129 N) N 129 Tryz.f129 ks129 rs129 (F129 N) :=
  ⟨Tryz.func129, by kernel_rfl, by kernel_rfl, by kernel_rfl, loops_of trivial, by kernel_rfl, by kernel_rfl, fun _ => by kernel_rfl⟩
theorem good129 (N : Nat) : Go.L.Good (e129 N) := good_of trivial
theorem gd129 (N : Nat) : CalOk Tryz.prog 129 (.ro (mkFun ks129 rs129 (F129 N))) := mkFun_ro (fine129 N) (good129 N) (by kernel_rfl)

/-! ### 130: core.class -/
def F130 (N : Nat) : Int × H → Option (Bool × H)
 | (a0, h) =>
 (if (decide (a0 ≥ 0)) = true then (
 some ((decide (a0 < 3)), h))
 else (
 some (false, h))).bind fun (b1, h2) =>
 some (b1, h2)
abbrev ks130 : List SK := [.one (.int .i64)]
abbrev rs130 : List SK := [.one .bool]
def e130 (N : Nat) : Env := ⟨Tryz.prog, 9, inTab [], inTab [], natTab [], inTab [], calTab [], altTab [], loopTab [], natTab [], inTab []⟩
theorem fine130 (N : Nat) : Fine (e130 N) N 130 Tryz.f130 ks130 rs130 (F130 N) :=
  ⟨Tryz.func130, by kernel_rfl, by kernel_rfl, by kernel_rfl, loops_of trivial, by kernel_rfl, by kernel_rfl, fun _ => by kernel_rfl⟩
theorem good130 (N : Nat) : Go.L.Good (e130 N) := good_of trivial
theorem gd130 : CalOk Tryz.prog 130 (.pure (mkP ks130 rs130 (F130 100))) := mkP_good (fine130 100) (good130 100) (by kernel_rfl) (by kernel_rfl)

/-! ### 249: api.Entry]).lives -/
def F249 (N : Nat) : V × H → Option (Bool × H)
 | (a0, h) =>
 (isNil a0).bind fun b1 =>
 (if (!b1) = true then (
 (nck a0).bind fun _ =>
 (L.asInt .i64 (rd h (padd a0 0) 0)).bind fun x4 =>
 some ((decide (x4 > 0)), h))
 else (
 some (false, h))).bind fun (b2, h3) =>
 some (b2, h3)
abbrev ks249 : List SK := [.one .ref]
abbrev rs249 : List SK := [.one .bool]
def e249 (N : Nat) : Env := ⟨Tryz.prog, 12, inTab [], inTab [], natTab [], inTab [], calTab [], altTab [], loopTab [], natTab [], inTab []⟩
theorem fine249 (N : Nat) : Fine (e249 N) N 249 Tryz.f249 ks249 rs249 (F249 N) :=
  ⟨Tryz.func249, by kernel_rfl, by kernel_rfl, by kernel_rfl, loops_of trivial, by kernel_rfl, by kernel_rfl, fun _ => by kernel_rfl⟩
theorem good249 (N : Nat) : Go.L.Good (e249 N) := good_of trivial
theorem gd249 (N : Nat) : CalOk Tryz.prog 249 (.ro (mkFun ks249 rs249 (F249 N))) := mkFun_ro (fine249 N) (good249 N) (by kernel_rfl)

/-! ### 250: api.Entry] -/
def F250 (N : Nat) : V × H → Option (V × H)
 | (a0, h) =>
 (slen a0).bind fun n1 =>
 (if 0 ≤ n1 then (if n1 ≤ n1 then (if n1 * ((3 : Nat) : Int) ≤ ((mostCells : Nat) : Int) then (
 (some (h ++ [O.cells 0 (repeatC (Int.toNat n1) [(.int .i64 0), (.int .i64 0), (.bool false)])]) : Option H).bind fun h2 =>
 (scells h2 a0 3).bind fun cs4 =>
 (if snlen a0 ≤ snlen (.sl (h).length 0 0 (Int.toNat n1) 3 (some (Int.toNat n1))) then (
 (hwrAll h2 (.sl (h).length 0 0 (Int.toNat n1) 3 (some (Int.toNat n1))) 3 cs4).bind fun h3 =>
 (slen a0).bind fun n5 =>
 (slen a0).bind fun n6 =>
 (slen (.sl (h).length 0 0 (Int.toNat n1) 3 (some (Int.toNat n1)))).bind fun n7 =>
 (ssl3 3 (.sl (h).length 0 0 (Int.toNat n1) 3 (some (Int.toNat n1))) 0 n5 n6).bind fun v8 =>
 some (v8, h3)) else none)) else none) else none) else none)
abbrev ks250 : List SK := [.one .ref]
abbrev rs250 : List SK := [.one .ref]
def e250 (N : Nat) : Env := ⟨Tryz.prog, 16, inTab [], inTab [], natTab [], inTab [], calTab [], altTab [], loopTab [], natTab [], inTab []⟩
theorem fine250 (N : Nat) : Fine (e250 N) N 250 Tryz.f250 ks250 rs250 (F250 N) :=
  ⟨Tryz.func250, by kernel_rfl, by kernel_rfl, by kernel_rfl, loops_of trivial, by kernel_rfl, by kernel_rfl, fun _ => by kernel_rfl⟩
theorem good250 (N : Nat) : Go.L.Good (e250 N) := good_of trivial
theorem gd250 (N : Nat) : CalOk Tryz.prog 250 (.full (mkFun ks250 rs250 (F250 N))) := mkFun_good (fine250 N) (good250 N)
theorem gl250 (N : Nat) : CalOk Tryz.prog 250 (.gro (mkFun ks250 rs250 (locF true ks250 rs250 (F250 N)))) := loc_gro (gd250 N)

/-! ### 131: api.Entry]).Items -/
def F131 (N : Nat) : V × H → Option (V × H)
 | (a0, h) =>
 (F249 N (a0, h)).bind fun (x1, _) =>
 (if (!x1) = true then (
 none)
 else (
 (nck a0).bind fun _ =>
 ((rd h (padd a0 1) 0)).bind fun x2 =>
 Option.bind (α := (V × H)) (locF true ks250 rs250 (F250 N) ((x2, h) : V × H)) fun (x3, h4) =>
 some (x3, h4)))
abbrev ks131 : List SK := [.one .ref]
abbrev rs131 : List SK := [.one .ref]
def e131 (N : Nat) : Env := ⟨Tryz.prog, 11, inTab [], inTab [], natTab [], inTab [], calTab [(249, .ro (mkFun ks249 rs249 (F249 N))), (250, .gro (mkFun ks250 rs250 (locF true ks250 rs250 (F250 N))))], altTab [], loopTab [], natTab [], inTab [2]⟩
theorem fine131 (N : Nat) : Fine (e131 N) N 131 Tryz.f131 ks131 rs131 (F131 N) :=
  ⟨Tryz.func131, by kernel_rfl, by kernel_rfl, by kernel_rfl, loops_of trivial, by kernel_rfl, by kernel_rfl, fun _ => by kernel_rfl⟩
theorem good131 (N : Nat) : Go.L.Good (e131 N) := good_of ⟨gd249 N, ⟨gl250 N, trivial⟩⟩
theorem gdg131 (N : Nat) : CalOk Tryz.prog 131 (.gro (mkFun ks131 rs131 (F131 N))) := mkFun_groC (fine131 N) (good131 N) (by kernel_rfl)

/-! ### 53: core.Core).Queue -/
def F53 (N : Nat) : V × Int × H → Option (V × H)
 | (a0, a1, h) =>
 (F129 N (a0, h)).bind fun (x1, _) =>
 (if (!x1) = true then (
 some (true, h))
 else (
 (F130 100 (a1, [])).bind fun (x4, _) =>
 some ((!x4), h))).bind fun (b2, h3) =>
 (if b2 = true then (
 none)
 else (
 (nck a0).bind fun _ =>
 (aidx (padd a0 2) a1 3 1).bind fun q5 =>
 ((rd h3 (padd q5 0) 0)).bind fun x6 =>
 (F131 N (x6, h3)).bind fun (x7, h8) =>
 some (x7, h8)))
abbrev ks53 : List SK := [.one .ref, .one (.int .i64)]
abbrev rs53 : List SK := [.one .ref]
def e53 (N : Nat) : Env := ⟨Tryz.prog, 21, inTab [], inTab [], natTab [], inTab [], calTab [(129, .ro (mkFun ks129 rs129 (F129 N))), (130, .pure (mkP ks130 rs130 (F130 100))), (131, .gro (mkFun ks131 rs131 (F131 N)))], altTab [], loopTab [], natTab [], inTab [2]⟩
theorem fine53 (N : Nat) : Fine (e53 N) N 53 Tryz.f53 ks53 rs53 (F53 N) :=
  ⟨Tryz.func53, by kernel_rfl, by kernel_rfl, by kernel_rfl, loops_of trivial, by kernel_rfl, by kernel_rfl, fun _ => by kernel_rfl⟩
theorem good53 (N : Nat) : Go.L.Good (e53 N) := good_of ⟨gd129 N, ⟨gd130, ⟨gdg131 N, trivial⟩⟩⟩
theorem gdg53 (N : Nat) : CalOk Tryz.prog 53 (.gro (mkFun ks53 rs53 (F53 N))) := mkFun_groC (fine53 N) (good53 N) (by kernel_rfl)

/-! ### 54: core.Core).Hand -/
def F54 (N : Nat) : V × H → Option (Int × H)
 | (a0, h) =>
 (F129 N (a0, h)).bind fun (x1, _) =>
 (if (!x1) = true then (
 none)
 else (
 (nck a0).bind fun _ =>
 (L.asInt .i64 (rd h (padd a0 1) 0)).bind fun x2 =>
 some (x2, h)))
abbrev ks54 : List SK := [.one .ref]
abbrev rs54 : List SK := [.one (.int .i64)]
def e54 (N : Nat) : Env := ⟨Tryz.prog, 10, inTab [], inTab [], natTab [], inTab [], calTab [(129, .ro (mkFun ks129 rs129 (F129 N)))], altTab [], loopTab [], natTab [], inTab [2]⟩
theorem fine54 (N : Nat) : Fine (e54 N) N 54 Tryz.f54 ks54 rs54 (F54 N) :=
  ⟨Tryz.func54, by kernel_rfl, by kernel_rfl, by kernel_rfl, loops_of trivial, by kernel_rfl, by kernel_rfl, fun _ => by kernel_rfl⟩
theorem good54 (N : Nat) : Go.L.Good (e54 N) := good_of ⟨gd129 N, trivial⟩
theorem gd54 (N : Nat) : CalOk Tryz.prog 54 (.ro (mkFun ks54 rs54 (F54 N))) := mkFun_ro (fine54 N) (good54 N) (by kernel_rfl)

/-! ### 132: timer.Wheel).lives -/
def F132 (N : Nat) : V × H → Option (Bool × H)
 | (a0, h) =>
 (isNil a0).bind fun b1 =>
 (if (!b1) = true then (
 (nck a0).bind fun _ =>
 (L.asBool (rd h (padd a0 0) 0)).bind fun x4 =>
 some (x4, h))
 else (
 some (false, h))).bind fun (b2, h3) =>
 some (b2, h3)
abbrev ks132 : List SK := [.one .ref]
abbrev rs132 : List SK := [.one .bool]
def e132 (N : Nat) : Env := ⟨Tryz.prog, 11, inTab [], inTab [], natTab [], inTab [], calTab [], altTab [], loopTab [], natTab [], inTab []⟩
theorem fine132 (N : Nat) : Fine (e132 N) N 132 Tryz.f132 ks132 rs132 (F132 N) :=
  ⟨Tryz.func132, by kernel_rfl, by kernel_rfl, by kernel_rfl, loops_of trivial, by kernel_rfl, by kernel_rfl, fun _ => by kernel_rfl⟩
theorem good132 (N : Nat) : Go.L.Good (e132 N) := good_of trivial
theorem gd132 (N : Nat) : CalOk Tryz.prog 132 (.ro (mkFun ks132 rs132 (F132 N))) := mkFun_ro (fine132 N) (good132 N) (by kernel_rfl)

/-! ### 252: timer.Wheel).all$1 -/
def F252 (N : Nat) : V × V × H → Option (H)
 | (a0, a1, h) =>
 ((rd h a1 0)).bind fun x1 =>
 (nck a0).bind fun _ =>
 ((rd h a0 0)).bind fun x2 =>
 (scells h x2 12).bind fun cs5 =>
 (happ h x1 12 (snlen x2) cs5).bind fun (v3, h4) =>
 (ck1 v3).bind fun _ =>
 (wr h4 a1 [v3]).bind fun h6 =>
 some h6
abbrev ks252 : List SK := [.one .ref, .one .ref]
abbrev rs252 : List SK := []
def e252 (N : Nat) : Env := ⟨Tryz.prog, 8, inTab [], inTab [], natTab [], inTab [], calTab [], altTab [], loopTab [], natTab [], inTab []⟩
theorem fine252 (N : Nat) : Fine (e252 N) N 252 Tryz.f252 ks252 rs252 (F252 N) :=
  ⟨Tryz.func252, by kernel_rfl, by kernel_rfl, by kernel_rfl, loops_of trivial, by kernel_rfl, by kernel_rfl, fun _ => by kernel_rfl⟩
theorem good252 (N : Nat) : Go.L.Good (e252 N) := good_of trivial
theorem gd252 (N : Nat) : CalOk Tryz.prog 252 (.full (mkFun ks252 rs252 (F252 N))) := mkFun_good (fine252 N) (good252 N)

/-! ### 251: timer.Wheel).each -/
abbrev rs251_10 : List SK := []
def D251_10 (N : Nat) : List (Nat × (List V → H → Option (Tup rs251_10 H))) := [(252, (mkFun ks252 rs252 (F252 N)).F)]
theorem dg251_10 (N : Nat) : CalOk Tryz.prog 16777226 (.dyn (dynF rs251_10 (D251_10 N))) := dyn_good ⟨mkFun_good (fine252 N) (good252 N), trivial⟩
abbrev rs251_25 : List SK := []
def D251_25 (N : Nat) : List (Nat × (List V → H → Option (Tup rs251_25 H))) := [(252, (mkFun ks252 rs252 (F252 N)).F)]
theorem dg251_25 (N : Nat) : CalOk Tryz.prog 16777241 (.dyn (dynF rs251_25 (D251_25 N))) := dyn_good ⟨mkFun_good (fine252 N) (good252 N), trivial⟩
def L251_1 (N : Nat) : Nat → V × V × Int × Int × Int × H → Option (V × V × Int × H)
 | 0, _ => none
 | n + 1, (x15, x16, x17, x18, x19, h20) =>
 (if (decide (x19 < 64)) = true then (
 (nck x15).bind fun _ =>
 (aidx (padd x15 3) x17 4 64).bind fun q21 =>
 (aidx q21 x19 64 1).bind fun q22 =>
 Option.bind (α := H) (dynC rs251_25 (D251_25 N) x16 [q22] h20) fun h23 =>
 L251_1 N n (x15, x16, x17, x18, (IntKind.i64.wrap (x19 + 1)), h23))
 else (
 some (x15, x16, x18, h20)))
def L251_0 (N : Nat) : Nat → V × V × Int × H → Option (H)
 | 0, _ => none
 | n + 1, (x28, x29, x30, h31) =>
 (if (decide (x30 < 4)) = true then (
 (L251_1 N N (x28, x29, x30, x30, 0, h31)).bind fun (x32, x33, x34, h35) =>
 L251_0 N n (x32, x33, (IntKind.i64.wrap (x34 + 1)), h35))
 else (
 some h31))
def F251 (N : Nat) : V × V × H → Option (H)
 | (a0, a1, h) =>
 (nck a0).bind fun _ =>
 Option.bind (α := H) (dynC rs251_10 (D251_10 N) a1 [(padd a0 259)] h) fun h1 =>
 (L251_0 N N (a0, a1, 0, h1)).bind fun h36 =>
 some h36
abbrev ks251 : List SK := [.one .ref, .one .ref]
abbrev rs251 : List SK := []
def e251 (N : Nat) : Env := ⟨Tryz.prog, 28, inTab [], inTab [], natTab [], inTab [], calTab [(16777226, .dyn (dynF rs251_10 (D251_10 N))), (16777241, .dyn (dynF rs251_25 (D251_25 N)))], altTab [], loopTab [(2, ⟨⟨.normal, [0, 1, 11], [.one .ref, .one .ref, .one (.int .i64)], [], []⟩, [⟨(.exit 0), [], [], [], []⟩], L251_0 N⟩), (5, ⟨⟨.normal, [0, 1, 4, 11, 14], [.one .ref, .one .ref, .one (.int .i64), .one (.int .i64), .one (.int .i64)], [], []⟩, [⟨(.exit 2), [0, 1, 11], [.one .ref, .one .ref, .one (.int .i64)], [], []⟩], L251_1 N⟩)], natTab [], inTab []⟩
theorem l251_0 (N : Nat) : ∀ A, (e251 N).lp (lid (loopAt Tryz.f251 0)) = some A → LoopOk (e251 N) N (loopAt Tryz.f251 0) A :=
  loopOk_of (A := ⟨⟨.normal, [0, 1, 11], [.one .ref, .one .ref, .one (.int .i64)], [], []⟩, [⟨(.exit 0), [], [], [], []⟩], L251_0 N⟩) (by kernel_rfl) (fun _ => rfl) (fun _ _ => by kernel_rfl)
theorem l251_1 (N : Nat) : ∀ A, (e251 N).lp (lid (loopAt Tryz.f251 1)) = some A → LoopOk (e251 N) N (loopAt Tryz.f251 1) A :=
  loopOk_of (A := ⟨⟨.normal, [0, 1, 4, 11, 14], [.one .ref, .one .ref, .one (.int .i64), .one (.int .i64), .one (.int .i64)], [], []⟩, [⟨(.exit 2), [0, 1, 11], [.one .ref, .one .ref, .one (.int .i64)], [], []⟩], L251_1 N⟩) (by kernel_rfl) (fun _ => rfl) (fun _ _ => by kernel_rfl)
theorem fine251 (N : Nat) : Fine (e251 N) N 251 Tryz.f251 ks251 rs251 (F251 N) :=
  ⟨Tryz.func251, by kernel_rfl, by kernel_rfl, by kernel_rfl, loops_of ⟨l251_0 N, ⟨l251_1 N, trivial⟩⟩, by kernel_rfl, by kernel_rfl, fun _ => by kernel_rfl⟩
theorem good251 (N : Nat) : Go.L.Good (e251 N) := good_of ⟨dg251_10 N, ⟨dg251_25 N, trivial⟩⟩
theorem gd251 (N : Nat) : CalOk Tryz.prog 251 (.full (mkFun ks251 rs251 (F251 N))) := mkFun_good (fine251 N) (good251 N)

/-! ### 355: bits.Len64 -/
def F355 (N : Nat) : Int × H → Option (Int × H)
 | (a0, h) =>
 (if (decide (a0 ≥ 4294967296)) = true then (
 none)
 else (
 (if (decide (a0 ≥ 65536)) = true then (
 none)
 else (
 (if (decide (a0 ≥ 256)) = true then (
 none)
 else (
 (if 0 ≤ (IntKind.u8.wrap a0) then ((ByteArray.mk #[0, 1, 2, 2, 3, 3, 3, 3, 4, 4, 4, 4, 4, 4, 4, 4, 5, 5, 5, 5, 5, 5, 5, 5, 5, 5, 5, 5, 5, 5, 5, 5, 6, 6, 6, 6, 6, 6, 6, 6, 6, 6, 6, 6, 6, 6, 6, 6, 6, 6, 6, 6, 6, 6, 6, 6, 6, 6, 6, 6, 6, 6, 6, 6, 7, 7, 7, 7, 7, 7, 7, 7, 7, 7, 7, 7, 7, 7, 7, 7, 7, 7, 7, 7, 7, 7, 7, 7, 7, 7, 7, 7, 7, 7, 7, 7, 7, 7, 7, 7, 7, 7, 7, 7, 7, 7, 7, 7, 7, 7, 7, 7, 7, 7, 7, 7, 7, 7, 7, 7, 7, 7, 7, 7, 7, 7, 7, 7, 8, 8, 8, 8, 8, 8, 8, 8, 8, 8, 8, 8, 8, 8, 8, 8, 8, 8, 8, 8, 8, 8, 8, 8, 8, 8, 8, 8, 8, 8, 8, 8, 8, 8, 8, 8, 8, 8, 8, 8, 8, 8, 8, 8, 8, 8, 8, 8, 8, 8, 8, 8, 8, 8, 8, 8, 8, 8, 8, 8, 8, 8, 8, 8, 8, 8, 8, 8, 8, 8, 8, 8, 8, 8, 8, 8, 8, 8, 8, 8, 8, 8, 8, 8, 8, 8, 8, 8, 8, 8, 8, 8, 8, 8, 8, 8, 8, 8, 8, 8, 8, 8, 8, 8, 8, 8, 8, 8, 8, 8, 8, 8, 8, 8, 8, 8, 8, 8, 8, 8, 8, 8, 8, 8, 8, 8, 8, 8])[Int.toNat (IntKind.u8.wrap a0)]?.bind fun c1 =>
 some ((IntKind.i64.wrap (0 + (IntKind.i64.wrap ((UInt8.toNat c1 : Nat) : Int)))), h)) else none)))))))
abbrev ks355 : List SK := [.one (.int .u64)]
abbrev rs355 : List SK := [.one (.int .i64)]
def e355 (N : Nat) : Env := ⟨Tryz.prog, 25, inTab [], inTab [], natTab [], inTab [], calTab [], altTab [], loopTab [], natTab [], inTab [2, 3, 5, 6, 8, 9]⟩
theorem fine355 (N : Nat) : Fine (e355 N) N 355 Tryz.f355 ks355 rs355 (F355 N) :=
  ⟨Tryz.func355, by kernel_rfl, by kernel_rfl, by kernel_rfl, loops_of trivial, by kernel_rfl, by kernel_rfl, fun _ => by kernel_rfl⟩
theorem good355 (N : Nat) : Go.L.Good (e355 N) := good_of trivial
theorem gd355 : CalOk Tryz.prog 355 (.pure (mkP ks355 rs355 (F355 100))) := mkP_good (fine355 100) (good355 100) (by kernel_rfl) (by kernel_rfl)

/-! ### 256: bits.Len -/
def F256 (N : Nat) : Int × H → Option (Int × H)
 | (a0, h) =>
 (if false = true then (
 none)
 else (
 (F355 100 (a0, [])).bind fun (x1, _) =>
 some (x1, h)))
abbrev ks256 : List SK := [.one (.int .u64)]
abbrev rs256 : List SK := [.one (.int .i64)]
def e256 (N : Nat) : Env := ⟨Tryz.prog, 8, inTab [], inTab [], natTab [], inTab [], calTab [(355, .pure (mkP ks355 rs355 (F355 100)))], altTab [], loopTab [], natTab [], inTab [1]⟩
theorem fine256 (N : Nat) : Fine (e256 N) N 256 Tryz.f256 ks256 rs256 (F256 N) :=
  ⟨Tryz.func256, by kernel_rfl, by kernel_rfl, by kernel_rfl, loops_of trivial, by kernel_rfl, by kernel_rfl, fun _ => by kernel_rfl⟩
theorem good256 (N : Nat) : Go.L.Good (e256 N) := good_of ⟨gd355, trivial⟩
theorem gd256 : CalOk Tryz.prog 256 (.pure (mkP ks256 rs256 (F256 100))) := mkP_good (fine256 100) (good256 100) (by kernel_rfl) (by kernel_rfl)

/-! ### 416: timer.entry] -/
def L416_0 (N : Nat) : Nat → Int × Int × H → Option (H)
 | 0, _ => none
 | n + 1, (x4, x5, h6) =>
 (if (decide (x5 < x4)) = true then (
 none)
 else (
 some h6))
def F416 (N : Nat) : V × Int × Int × V × H → Option (H)
 | (a0, a1, a2, a3, h) =>
 (L416_0 N N (a2, (IntKind.i64.wrap (a1 + 1)), h)).bind fun h7 =>
 some h7
abbrev ks416 : List SK := [.one .ref, .one (.int .i64), .one (.int .i64), .one .ref]
abbrev rs416 : List SK := []
def e416 (N : Nat) : Env := ⟨Tryz.prog, 53, inTab [], inTab [], natTab [], inTab [], calTab [], altTab [], loopTab [(1, ⟨⟨.normal, [2, 8], [.one (.int .i64), .one (.int .i64)], [], []⟩, [⟨(.exit 0), [], [], [], []⟩], L416_0 N⟩)], natTab [], inTab [2, 3, 4, 5, 6]⟩
theorem l416_0 (N : Nat) : ∀ A, (e416 N).lp (lid (loopAt Tryz.f416 0)) = some A → LoopOk (e416 N) N (loopAt Tryz.f416 0) A :=
  loopOk_of (A := ⟨⟨.normal, [2, 8], [.one (.int .i64), .one (.int .i64)], [], []⟩, [⟨(.exit 0), [], [], [], []⟩], L416_0 N⟩) (by kernel_rfl) (fun _ => rfl) (fun _ _ => by kernel_rfl)
theorem lv416_1 (N : Nat) : ∀ A, (e416 N).lp (lid (loopAt Tryz.f416 1)) = some A → LoopOk (e416 N) N (loopAt Tryz.f416 1) A := fun A h => by
 rw [show (e416 N).lp (lid (loopAt Tryz.f416 1)) = none by kernel_rfl] at h; cases h
theorem fine416 (N : Nat) : Fine (e416 N) N 416 Tryz.f416 ks416 rs416 (F416 N) :=
  ⟨Tryz.func416, by kernel_rfl, by kernel_rfl, by kernel_rfl, loops_of ⟨l416_0 N, ⟨lv416_1 N, trivial⟩⟩, by kernel_rfl, by kernel_rfl, fun _ => by kernel_rfl⟩
theorem good416 (N : Nat) : Go.L.Good (e416 N) := good_of trivial
theorem gdg416 (N : Nat) : CalOk Tryz.prog 416 (.gro (mkFun ks416 rs416 (F416 N))) := mkFun_groC (fine416 N) (good416 N) (by kernel_rfl)

/-! ### 345: timer.entry] -/
def L345_0 (N : Nat) (rec : V × Int × Int × Int × V × H → Option (H)) : Nat → V × Int × Int × V × H → Option (H)
 | 0, _ => none
 | n + 1, (x7, x8, x9, x10, h11) =>
 (if (decide ((IntKind.i64.wrap (x9 - x8)) ≤ 12)) = true then (
 (F416 N (x7, x8, x9, x10, h11)).bind fun h12 =>
 some h12)
 else (
 none))
def F345 (N : Nat) : Nat → V × Int × Int × Int × V × H → Option (H)
 | 0, _ => none
 | d + 1, (a0, a1, a2, a3, a4, h) =>
 (L345_0 N (F345 N d) N (a0, a1, a2, a4, h)).bind fun h13 =>
 some h13
abbrev ks345 : List SK := [.one .ref, .one (.int .i64), .one (.int .i64), .one (.int .i64), .one .ref]
abbrev rs345 : List SK := []
def e345 (N d : Nat) : Env := ⟨Tryz.prog, 148, inTab [], inTab [], natTab [], inTab [], calTab [(416, .gro (mkFun ks416 rs416 (F416 N)))], altTab [], loopTab [(2, ⟨⟨.normal, [0, 1, 2, 4], [.one .ref, .one (.int .i64), .one (.int .i64), .one .ref], [], []⟩, [⟨.ret, [], [], [], []⟩], L345_0 N (F345 N d)⟩)], natTab [], inTab [5, 6, 7, 8, 9, 10, 11, 12, 13, 14, 15, 16, 17, 18, 19, 20, 21, 22, 23, 24, 25, 26, 27, 28, 29, 30]⟩
theorem l345_0 (N d : Nat) : ∀ A, (e345 N d).lp (lid (loopAt Tryz.f345 0)) = some A → LoopOk (e345 N d) N (loopAt Tryz.f345 0) A :=
  loopOk_of (A := ⟨⟨.normal, [0, 1, 2, 4], [.one .ref, .one (.int .i64), .one (.int .i64), .one .ref], [], []⟩, [⟨.ret, [], [], [], []⟩], L345_0 N (F345 N d)⟩) (by kernel_rfl) (fun _ => rfl) (fun _ _ => by kernel_rfl)
theorem fine345 (N d : Nat) : Fine (e345 N d) N 345 Tryz.f345 ks345 rs345 (F345 N (d + 1)) :=
  ⟨Tryz.func345, by kernel_rfl, by kernel_rfl, by kernel_rfl, loops_of ⟨l345_0 N d, trivial⟩, by kernel_rfl, by kernel_rfl, fun _ => by kernel_rfl⟩
theorem gd345 (N : Nat) : ∀ d, CalOk Tryz.prog 345 (.full (mkFun ks345 rs345 (F345 N d)))
  | 0 => fun vs h s he => by obtain ⟨t, _, he⟩ := Option.bind_eq_some_iff.1 he; cases he
  | d + 1 => mkFun_good (fine345 N d) (good_of ⟨gdg416 N, trivial⟩)
theorem good345 (N d : Nat) : Go.L.Good (e345 N d) := good_of ⟨gdg416 N, trivial⟩

/-! ### 253: timer.entry] -/
def F253 (N : Nat) : V × V × H → Option (H)
 | (a0, a1, h) =>
 (slen a0).bind fun n1 =>
 (F256 100 ((IntKind.u64.wrap n1), [])).bind fun (x2, _) =>
 (F345 N N (a0, 0, n1, x2, a1, h)).bind fun h3 =>
 some h3
abbrev ks253 : List SK := [.one .ref, .one .ref]
abbrev rs253 : List SK := []
def e253 (N : Nat) : Env := ⟨Tryz.prog, 14, inTab [], inTab [], natTab [], inTab [], calTab [(256, .pure (mkP ks256 rs256 (F256 100))), (345, .full (mkFun ks345 rs345 (F345 N N)))], altTab [], loopTab [], natTab [], inTab []⟩
theorem fine253 (N : Nat) : Fine (e253 N) N 253 Tryz.f253 ks253 rs253 (F253 N) :=
  ⟨Tryz.func253, by kernel_rfl, by kernel_rfl, by kernel_rfl, loops_of trivial, by kernel_rfl, by kernel_rfl, fun _ => by kernel_rfl⟩
theorem good253 (N : Nat) : Go.L.Good (e253 N) := good_of ⟨gd256, ⟨gd345 N N, trivial⟩⟩
theorem gd253 (N : Nat) : CalOk Tryz.prog 253 (.full (mkFun ks253 rs253 (F253 N))) := mkFun_good (fine253 N) (good253 N)

/-! ### 134: timer.Wheel).all -/
def F134 (N : Nat) : V × H → Option (V × H)
 | (a0, h) =>
 (some (h ++ [O.cells 0 [.nils]]) : Option H).bind fun h1 =>
 (F251 N (a0, (.fn 252 [(.ptr (h).length 0 0)]), h1)).bind fun h2 =>
 ((rd h2 (.ptr (h).length 0 0) 0)).bind fun x3 =>
 (F253 N (x3, (.fn 254 []), h2)).bind fun h4 =>
 ((rd h4 (.ptr (h).length 0 0) 0)).bind fun x5 =>
 some (x5, h4)
abbrev ks134 : List SK := [.one .ref]
abbrev rs134 : List SK := [.one .ref]
def e134 (N : Nat) : Env := ⟨Tryz.prog, 10, inTab [], inTab [], natTab [], inTab [], calTab [(251, .full (mkFun ks251 rs251 (F251 N))), (253, .full (mkFun ks253 rs253 (F253 N)))], altTab [], loopTab [], natTab [], inTab []⟩
theorem fine134 (N : Nat) : Fine (e134 N) N 134 Tryz.f134 ks134 rs134 (F134 N) :=
  ⟨Tryz.func134, by kernel_rfl, by kernel_rfl, by kernel_rfl, loops_of trivial, by kernel_rfl, by kernel_rfl, fun _ => by kernel_rfl⟩
theorem good134 (N : Nat) : Go.L.Good (e134 N) := good_of ⟨gd251 N, ⟨gd253 N, trivial⟩⟩
theorem gd134 (N : Nat) : CalOk Tryz.prog 134 (.full (mkFun ks134 rs134 (F134 N))) := mkFun_good (fine134 N) (good134 N)

/-! ### 133: timer.told -/
def L133_0 (N : Nat) : Nat → V × Int × Int × H → Option (V × H)
 | 0, _ => none
 | n + 1, (x6, x7, x8, h9) =>
 (if (decide (x8 < x7)) = true then (
 none)
 else (
 some (x6, h9)))
def F133 (N : Nat) : V × H → Option (V × H)
 | (a0, h) =>
 (slen a0).bind fun n1 =>
 (L133_0 N N (.nils, n1, 0, h)).bind fun (x10, h11) =>
 some (x10, h11)
abbrev ks133 : List SK := [.one .ref]
abbrev rs133 : List SK := [.one .ref]
def e133 (N : Nat) : Env := ⟨Tryz.prog, 19, inTab [5, 15], inTab [], natTab [(5, 5), (13, 5)], inTab [], calTab [], altTab [], loopTab [(3, ⟨⟨.normal, [3, 7, 8], [.one .ref, .one (.int .i64), .one (.int .i64)], [], []⟩, [⟨(.exit 0), [3], [.one .ref], [], []⟩], L133_0 N⟩)], natTab [], inTab [4, 5, 6]⟩
theorem l133_0 (N : Nat) : ∀ A, (e133 N).lp (lid (loopAt Tryz.f133 0)) = some A → LoopOk (e133 N) N (loopAt Tryz.f133 0) A :=
  loopOk_of (A := ⟨⟨.normal, [3, 7, 8], [.one .ref, .one (.int .i64), .one (.int .i64)], [], []⟩, [⟨(.exit 0), [3], [.one .ref], [], []⟩], L133_0 N⟩) (by kernel_rfl) (fun _ => rfl) (fun _ _ => by kernel_rfl)
theorem fine133 (N : Nat) : Fine (e133 N) N 133 Tryz.f133 ks133 rs133 (F133 N) :=
  ⟨Tryz.func133, by kernel_rfl, by kernel_rfl, by kernel_rfl, loops_of ⟨l133_0 N, trivial⟩, by kernel_rfl, by kernel_rfl, fun _ => by kernel_rfl⟩
theorem good133 (N : Nat) : Go.L.Good (e133 N) := good_of trivial
theorem gd133 (N : Nat) : CalOk Tryz.prog 133 (.ro (mkFun ks133 rs133 (F133 N))) := mkFun_ro (fine133 N) (good133 N) (by kernel_rfl)

/-! ### 55: timer.Wheel).List -/
def F55 (N : Nat) : V × H → Option (V × H)
 | (a0, h) =>
 (F132 N (a0, h)).bind fun (x1, _) =>
 (if (!x1) = true then (
 none)
 else (
 (F134 N (a0, h)).bind fun (x2, h3) =>
 (F133 N (x2, h3)).bind fun (x4, _) =>
 some (x4, h3)))
abbrev ks55 : List SK := [.one .ref]
abbrev rs55 : List SK := [.one .ref]
def e55 (N : Nat) : Env := ⟨Tryz.prog, 9, inTab [], inTab [], natTab [], inTab [], calTab [(132, .ro (mkFun ks132 rs132 (F132 N))), (134, .full (mkFun ks134 rs134 (F134 N))), (133, .ro (mkFun ks133 rs133 (F133 N)))], altTab [], loopTab [], natTab [], inTab [2]⟩
theorem fine55 (N : Nat) : Fine (e55 N) N 55 Tryz.f55 ks55 rs55 (F55 N) :=
  ⟨Tryz.func55, by kernel_rfl, by kernel_rfl, by kernel_rfl, loops_of trivial, by kernel_rfl, by kernel_rfl, fun _ => by kernel_rfl⟩
theorem good55 (N : Nat) : Go.L.Good (e55 N) := good_of ⟨gd132 N, ⟨gd134 N, ⟨gd133 N, trivial⟩⟩⟩
theorem gd55 (N : Nat) : CalOk Tryz.prog 55 (.full (mkFun ks55 rs55 (F55 N))) := mkFun_good (fine55 N) (good55 N)

/-! ### 135: tie.Ties).lives -/
def F135 (N : Nat) : V × H → Option (Bool × H)
 | (a0, h) =>
 (isNil a0).bind fun b1 =>
 (if (!b1) = true then (
 (nck a0).bind fun _ =>
 ((rd h (padd a0 0) 0)).bind fun x4 =>
 (isNilM x4).bind fun b5 =>
 some ((!b5), h))
 else (
 some (false, h))).bind fun (b2, h3) =>
 some (b2, h3)
abbrev ks135 : List SK := [.one .ref]
abbrev rs135 : List SK := [.one .bool]
def e135 (N : Nat) : Env := ⟨Tryz.prog, 12, inTab [], inTab [], natTab [], inTab [], calTab [], altTab [], loopTab [], natTab [], inTab []⟩
theorem fine135 (N : Nat) : Fine (e135 N) N 135 Tryz.f135 ks135 rs135 (F135 N) :=
  ⟨Tryz.func135, by kernel_rfl, by kernel_rfl, by kernel_rfl, loops_of trivial, by kernel_rfl, by kernel_rfl, fun _ => by kernel_rfl⟩
theorem good135 (N : Nat) : Go.L.Good (e135 N) := good_of trivial
theorem gd135 (N : Nat) : CalOk Tryz.prog 135 (.ro (mkFun ks135 rs135 (F135 N))) := mkFun_ro (fine135 N) (good135 N) (by kernel_rfl)

/-! ### 346: api.Tie] -/
def L346_0 (N : Nat) : Nat → Int × Int × H → Option (H)
 | 0, _ => none
 | n + 1, (x4, x5, h6) =>
 (if (decide (x5 < x4)) = true then (
 none)
 else (
 some h6))
def F346 (N : Nat) : V × Int × Int × V × H → Option (H)
 | (a0, a1, a2, a3, h) =>
 (L346_0 N N (a2, (IntKind.i64.wrap (a1 + 1)), h)).bind fun h7 =>
 some h7
abbrev ks346 : List SK := [.one .ref, .one (.int .i64), .one (.int .i64), .one .ref]
abbrev rs346 : List SK := []
def e346 (N : Nat) : Env := ⟨Tryz.prog, 53, inTab [], inTab [], natTab [], inTab [], calTab [], altTab [], loopTab [(1, ⟨⟨.normal, [2, 8], [.one (.int .i64), .one (.int .i64)], [], []⟩, [⟨(.exit 0), [], [], [], []⟩], L346_0 N⟩)], natTab [], inTab [2, 3, 4, 5, 6]⟩
theorem l346_0 (N : Nat) : ∀ A, (e346 N).lp (lid (loopAt Tryz.f346 0)) = some A → LoopOk (e346 N) N (loopAt Tryz.f346 0) A :=
  loopOk_of (A := ⟨⟨.normal, [2, 8], [.one (.int .i64), .one (.int .i64)], [], []⟩, [⟨(.exit 0), [], [], [], []⟩], L346_0 N⟩) (by kernel_rfl) (fun _ => rfl) (fun _ _ => by kernel_rfl)
theorem lv346_1 (N : Nat) : ∀ A, (e346 N).lp (lid (loopAt Tryz.f346 1)) = some A → LoopOk (e346 N) N (loopAt Tryz.f346 1) A := fun A h => by
 rw [show (e346 N).lp (lid (loopAt Tryz.f346 1)) = none by kernel_rfl] at h; cases h
theorem fine346 (N : Nat) : Fine (e346 N) N 346 Tryz.f346 ks346 rs346 (F346 N) :=
  ⟨Tryz.func346, by kernel_rfl, by kernel_rfl, by kernel_rfl, loops_of ⟨l346_0 N, ⟨lv346_1 N, trivial⟩⟩, by kernel_rfl, by kernel_rfl, fun _ => by kernel_rfl⟩
theorem good346 (N : Nat) : Go.L.Good (e346 N) := good_of trivial
theorem gdg346 (N : Nat) : CalOk Tryz.prog 346 (.gro (mkFun ks346 rs346 (F346 N))) := mkFun_groC (fine346 N) (good346 N) (by kernel_rfl)

/-! ### 255: api.Tie] -/
def L255_0 (N : Nat) (rec : V × Int × Int × Int × V × H → Option (H)) : Nat → V × Int × Int × V × H → Option (H)
 | 0, _ => none
 | n + 1, (x7, x8, x9, x10, h11) =>
 (if (decide ((IntKind.i64.wrap (x9 - x8)) ≤ 12)) = true then (
 (F346 N (x7, x8, x9, x10, h11)).bind fun h12 =>
 some h12)
 else (
 none))
def F255 (N : Nat) : Nat → V × Int × Int × Int × V × H → Option (H)
 | 0, _ => none
 | d + 1, (a0, a1, a2, a3, a4, h) =>
 (L255_0 N (F255 N d) N (a0, a1, a2, a4, h)).bind fun h13 =>
 some h13
abbrev ks255 : List SK := [.one .ref, .one (.int .i64), .one (.int .i64), .one (.int .i64), .one .ref]
abbrev rs255 : List SK := []
def e255 (N d : Nat) : Env := ⟨Tryz.prog, 148, inTab [], inTab [], natTab [], inTab [], calTab [(346, .gro (mkFun ks346 rs346 (F346 N)))], altTab [], loopTab [(2, ⟨⟨.normal, [0, 1, 2, 4], [.one .ref, .one (.int .i64), .one (.int .i64), .one .ref], [], []⟩, [⟨.ret, [], [], [], []⟩], L255_0 N (F255 N d)⟩)], natTab [], inTab [5, 6, 7, 8, 9, 10, 11, 12, 13, 14, 15, 16, 17, 18, 19, 20, 21, 22, 23, 24, 25, 26, 27, 28, 29, 30]⟩
theorem l255_0 (N d : Nat) : ∀ A, (e255 N d).lp (lid (loopAt Tryz.f255 0)) = some A → LoopOk (e255 N d) N (loopAt Tryz.f255 0) A :=
  loopOk_of (A := ⟨⟨.normal, [0, 1, 2, 4], [.one .ref, .one (.int .i64), .one (.int .i64), .one .ref], [], []⟩, [⟨.ret, [], [], [], []⟩], L255_0 N (F255 N d)⟩) (by kernel_rfl) (fun _ => rfl) (fun _ _ => by kernel_rfl)
theorem fine255 (N d : Nat) : Fine (e255 N d) N 255 Tryz.f255 ks255 rs255 (F255 N (d + 1)) :=
  ⟨Tryz.func255, by kernel_rfl, by kernel_rfl, by kernel_rfl, loops_of ⟨l255_0 N d, trivial⟩, by kernel_rfl, by kernel_rfl, fun _ => by kernel_rfl⟩
theorem gd255 (N : Nat) : ∀ d, CalOk Tryz.prog 255 (.full (mkFun ks255 rs255 (F255 N d)))
  | 0 => fun vs h s he => by obtain ⟨t, _, he⟩ := Option.bind_eq_some_iff.1 he; cases he
  | d + 1 => mkFun_good (fine255 N d) (good_of ⟨gdg346 N, trivial⟩)
theorem good255 (N d : Nat) : Go.L.Good (e255 N d) := good_of ⟨gdg346 N, trivial⟩

/-! ### 136: api.Tie] -/
def F136 (N : Nat) : V × V × H → Option (H)
 | (a0, a1, h) =>
 (slen a0).bind fun n1 =>
 (F256 100 ((IntKind.u64.wrap n1), [])).bind fun (x2, _) =>
 (F255 N N (a0, 0, n1, x2, a1, h)).bind fun h3 =>
 some h3
abbrev ks136 : List SK := [.one .ref, .one .ref]
abbrev rs136 : List SK := []
def e136 (N : Nat) : Env := ⟨Tryz.prog, 14, inTab [], inTab [], natTab [], inTab [], calTab [(256, .pure (mkP ks256 rs256 (F256 100))), (255, .full (mkFun ks255 rs255 (F255 N N)))], altTab [], loopTab [], natTab [], inTab []⟩
theorem fine136 (N : Nat) : Fine (e136 N) N 136 Tryz.f136 ks136 rs136 (F136 N) :=
  ⟨Tryz.func136, by kernel_rfl, by kernel_rfl, by kernel_rfl, loops_of trivial, by kernel_rfl, by kernel_rfl, fun _ => by kernel_rfl⟩
theorem good136 (N : Nat) : Go.L.Good (e136 N) := good_of ⟨gd256, ⟨gd255 N N, trivial⟩⟩
theorem gd136 (N : Nat) : CalOk Tryz.prog 136 (.full (mkFun ks136 rs136 (F136 N))) := mkFun_good (fine136 N) (good136 N)

/-! ### 429: slices.insertionSortOrdered[int] -/
def L429_0 (N : Nat) : Nat → Int × Int × H → Option (H)
 | 0, _ => none
 | n + 1, (x4, x5, h6) =>
 (if (decide (x5 < x4)) = true then (
 none)
 else (
 some h6))
def F429 (N : Nat) : V × Int × Int × H → Option (H)
 | (a0, a1, a2, h) =>
 (L429_0 N N (a2, (IntKind.i64.wrap (a1 + 1)), h)).bind fun h7 =>
 some h7
abbrev ks429 : List SK := [.one .ref, .one (.int .i64), .one (.int .i64)]
abbrev rs429 : List SK := []
def e429 (N : Nat) : Env := ⟨Tryz.prog, 49, inTab [], inTab [], natTab [], inTab [], calTab [], altTab [], loopTab [(1, ⟨⟨.normal, [2, 6], [.one (.int .i64), .one (.int .i64)], [], []⟩, [⟨(.exit 0), [], [], [], []⟩], L429_0 N⟩)], natTab [], inTab [2, 3, 4, 5, 6]⟩
theorem l429_0 (N : Nat) : ∀ A, (e429 N).lp (lid (loopAt Tryz.f429 0)) = some A → LoopOk (e429 N) N (loopAt Tryz.f429 0) A :=
  loopOk_of (A := ⟨⟨.normal, [2, 6], [.one (.int .i64), .one (.int .i64)], [], []⟩, [⟨(.exit 0), [], [], [], []⟩], L429_0 N⟩) (by kernel_rfl) (fun _ => rfl) (fun _ _ => by kernel_rfl)
theorem lv429_1 (N : Nat) : ∀ A, (e429 N).lp (lid (loopAt Tryz.f429 1)) = some A → LoopOk (e429 N) N (loopAt Tryz.f429 1) A := fun A h => by
 rw [show (e429 N).lp (lid (loopAt Tryz.f429 1)) = none by kernel_rfl] at h; cases h
theorem fine429 (N : Nat) : Fine (e429 N) N 429 Tryz.f429 ks429 rs429 (F429 N) :=
  ⟨Tryz.func429, by kernel_rfl, by kernel_rfl, by kernel_rfl, loops_of ⟨l429_0 N, ⟨lv429_1 N, trivial⟩⟩, by kernel_rfl, by kernel_rfl, fun _ => by kernel_rfl⟩
theorem good429 (N : Nat) : Go.L.Good (e429 N) := good_of trivial
theorem gdg429 (N : Nat) : CalOk Tryz.prog 429 (.gro (mkFun ks429 rs429 (F429 N))) := mkFun_groC (fine429 N) (good429 N) (by kernel_rfl)

/-! ### 356: slices.pdqsortOrdered[int] -/
def L356_0 (N : Nat) (rec : V × Int × Int × Int × H → Option (H)) : Nat → V × Int × Int × H → Option (H)
 | 0, _ => none
 | n + 1, (x6, x7, x8, h9) =>
 (if (decide ((IntKind.i64.wrap (x8 - x7)) ≤ 12)) = true then (
 (F429 N (x6, x7, x8, h9)).bind fun h10 =>
 some h10)
 else (
 none))
def F356 (N : Nat) : Nat → V × Int × Int × Int × H → Option (H)
 | 0, _ => none
 | d + 1, (a0, a1, a2, a3, h) =>
 (L356_0 N (F356 N d) N (a0, a1, a2, h)).bind fun h11 =>
 some h11
abbrev ks356 : List SK := [.one .ref, .one (.int .i64), .one (.int .i64), .one (.int .i64)]
abbrev rs356 : List SK := []
def e356 (N d : Nat) : Env := ⟨Tryz.prog, 134, inTab [], inTab [], natTab [], inTab [], calTab [(429, .gro (mkFun ks429 rs429 (F429 N)))], altTab [], loopTab [(2, ⟨⟨.normal, [0, 1, 2], [.one .ref, .one (.int .i64), .one (.int .i64)], [], []⟩, [⟨.ret, [], [], [], []⟩], L356_0 N (F356 N d)⟩)], natTab [], inTab [5, 6, 7, 8, 9, 10, 11, 12, 13, 14, 15, 16, 17, 18, 19, 20, 21, 22, 23, 24, 25, 26, 27, 28, 29, 30]⟩
theorem l356_0 (N d : Nat) : ∀ A, (e356 N d).lp (lid (loopAt Tryz.f356 0)) = some A → LoopOk (e356 N d) N (loopAt Tryz.f356 0) A :=
  loopOk_of (A := ⟨⟨.normal, [0, 1, 2], [.one .ref, .one (.int .i64), .one (.int .i64)], [], []⟩, [⟨.ret, [], [], [], []⟩], L356_0 N (F356 N d)⟩) (by kernel_rfl) (fun _ => rfl) (fun _ _ => by kernel_rfl)
theorem fine356 (N d : Nat) : Fine (e356 N d) N 356 Tryz.f356 ks356 rs356 (F356 N (d + 1)) :=
  ⟨Tryz.func356, by kernel_rfl, by kernel_rfl, by kernel_rfl, loops_of ⟨l356_0 N d, trivial⟩, by kernel_rfl, by kernel_rfl, fun _ => by kernel_rfl⟩
theorem gd356 (N : Nat) : ∀ d, CalOk Tryz.prog 356 (.full (mkFun ks356 rs356 (F356 N d)))
  | 0 => fun vs h s he => by obtain ⟨t, _, he⟩ := Option.bind_eq_some_iff.1 he; cases he
  | d + 1 => mkFun_good (fine356 N d) (good_of ⟨gdg429 N, trivial⟩)
theorem good356 (N d : Nat) : Go.L.Good (e356 N d) := good_of ⟨gdg429 N, trivial⟩

/-! ### 257: slices.Sort[[]int,int] -/
def F257 (N : Nat) : V × H → Option (H)
 | (a0, h) =>
 (slen a0).bind fun n1 =>
 (F256 100 ((IntKind.u64.wrap n1), [])).bind fun (x2, _) =>
 (F356 N N (a0, 0, n1, x2, h)).bind fun h3 =>
 some h3
abbrev ks257 : List SK := [.one .ref]
abbrev rs257 : List SK := []
def e257 (N : Nat) : Env := ⟨Tryz.prog, 11, inTab [], inTab [], natTab [], inTab [], calTab [(256, .pure (mkP ks256 rs256 (F256 100))), (356, .full (mkFun ks356 rs356 (F356 N N)))], altTab [], loopTab [], natTab [], inTab []⟩
theorem fine257 (N : Nat) : Fine (e257 N) N 257 Tryz.f257 ks257 rs257 (F257 N) :=
  ⟨Tryz.func257, by kernel_rfl, by kernel_rfl, by kernel_rfl, loops_of trivial, by kernel_rfl, by kernel_rfl, fun _ => by kernel_rfl⟩
theorem good257 (N : Nat) : Go.L.Good (e257 N) := good_of ⟨gd256, ⟨gd356 N N, trivial⟩⟩
theorem gd257 (N : Nat) : CalOk Tryz.prog 257 (.full (mkFun ks257 rs257 (F257 N))) := mkFun_good (fine257 N) (good257 N)

/-! ### 140: tie.Ties).refs -/
def L140_0 (N : Nat) : Nat → V × V × H → Option (V × H)
 | 0, _ => none
 | n + 1, (x11, x12, h13) =>
 (hnext h13 x12).bind fun (b14, k15, v16, h17) =>
 (if b14 = true then (
 (if true = true then (
 none)
 else (
 some (x11, h17))))
 else (
 (if false = true then (
 none)
 else (
 some (x11, h17)))))
def F140 (N : Nat) : V × V × H → Option (V × H)
 | (a0, a1, h) =>
 (nck a0).bind fun _ =>
 ((rd h (padd a0 1) 0)).bind fun x1 =>
 (hrange h x1).bind fun o2 =>
 (some (h ++ [o2]) : Option H).bind fun h3 =>
 (L140_0 N N (.nils, (.ptr (h).length 0 0), h3)).bind fun (x18, h19) =>
 (F257 N (x18, h19)).bind fun h20 =>
 some (x18, h20)
abbrev ks140 : List SK := [.one .ref, .one .ref]
abbrev rs140 : List SK := [.one .ref]
def e140 (N : Nat) : Env := ⟨Tryz.prog, 28, inTab [7, 23], inTab [], natTab [(7, 7)], inTab [], calTab [(257, .full (mkFun ks257 rs257 (F257 N)))], altTab [], loopTab [(3, ⟨⟨.normal, [5, 12], [.one .ref, .one .ref], [], []⟩, [⟨(.exit 0), [5], [.one .ref], [], []⟩], L140_0 N⟩)], natTab [(15, 261)], inTab [4, 5, 6]⟩
theorem l140_0 (N : Nat) : ∀ A, (e140 N).lp (lid (loopAt Tryz.f140 0)) = some A → LoopOk (e140 N) N (loopAt Tryz.f140 0) A :=
  loopOk_of (A := ⟨⟨.normal, [5, 12], [.one .ref, .one .ref], [], []⟩, [⟨(.exit 0), [5], [.one .ref], [], []⟩], L140_0 N⟩) (by kernel_rfl) (fun _ => rfl) (fun _ _ => by kernel_rfl)
theorem fine140 (N : Nat) : Fine (e140 N) N 140 Tryz.f140 ks140 rs140 (F140 N) :=
  ⟨Tryz.func140, by kernel_rfl, by kernel_rfl, by kernel_rfl, loops_of ⟨l140_0 N, trivial⟩, by kernel_rfl, by kernel_rfl, fun _ => by kernel_rfl⟩
theorem good140 (N : Nat) : Go.L.Good (e140 N) := good_of ⟨gd257 N, trivial⟩
theorem gd140 (N : Nat) : CalOk Tryz.prog 140 (.full (mkFun ks140 rs140 (F140 N))) := mkFun_good (fine140 N) (good140 N)

/-! ### 139: tie.Ties).told -/
def L139_0 (N : Nat) : Nat → V × Int × Int × H → Option (V × H)
 | 0, _ => none
 | n + 1, (x6, x7, x8, h9) =>
 (if (decide (x8 < x7)) = true then (
 none)
 else (
 some (x6, h9)))
def F139 (N : Nat) : V × V × H → Option (V × H)
 | (a0, a1, h) =>
 (slen a1).bind fun n1 =>
 (L139_0 N N (.nils, n1, 0, h)).bind fun (x10, h11) =>
 some (x10, h11)
abbrev ks139 : List SK := [.one .ref, .one .ref]
abbrev rs139 : List SK := [.one .ref]
def e139 (N : Nat) : Env := ⟨Tryz.prog, 32, inTab [8, 28], inTab [], natTab [(8, 8), (23, 8), (25, 8)], inTab [], calTab [], altTab [], loopTab [(3, ⟨⟨.normal, [5, 10, 11], [.one .ref, .one (.int .i64), .one (.int .i64)], [], []⟩, [⟨(.exit 0), [5], [.one .ref], [], []⟩], L139_0 N⟩)], natTab [], inTab [4, 5, 6, 7]⟩
theorem l139_0 (N : Nat) : ∀ A, (e139 N).lp (lid (loopAt Tryz.f139 0)) = some A → LoopOk (e139 N) N (loopAt Tryz.f139 0) A :=
  loopOk_of (A := ⟨⟨.normal, [5, 10, 11], [.one .ref, .one (.int .i64), .one (.int .i64)], [], []⟩, [⟨(.exit 0), [5], [.one .ref], [], []⟩], L139_0 N⟩) (by kernel_rfl) (fun _ => rfl) (fun _ _ => by kernel_rfl)
theorem fine139 (N : Nat) : Fine (e139 N) N 139 Tryz.f139 ks139 rs139 (F139 N) :=
  ⟨Tryz.func139, by kernel_rfl, by kernel_rfl, by kernel_rfl, loops_of ⟨l139_0 N, trivial⟩, by kernel_rfl, by kernel_rfl, fun _ => by kernel_rfl⟩
theorem good139 (N : Nat) : Go.L.Good (e139 N) := good_of trivial
theorem gd139 (N : Nat) : CalOk Tryz.prog 139 (.ro (mkFun ks139 rs139 (F139 N))) := mkFun_ro (fine139 N) (good139 N) (by kernel_rfl)

/-! ### 56: tie.Ties).All -/
def L56_0 (N : Nat) : Nat → V × V × V × H → Option (V × V × H)
 | 0, _ => none
 | n + 1, (x13, x14, x15, h16) =>
 (hnext h16 x15).bind fun (b17, k18, v19, h20) =>
 (if b17 = true then (
 (if true = true then (
 none)
 else (
 some (x13, x14, h20))))
 else (
 (if false = true then (
 none)
 else (
 some (x13, x14, h20)))))
def F56 (N : Nat) : V × H → Option (V × H)
 | (a0, h) =>
 (F135 N (a0, h)).bind fun (x1, _) =>
 (if (!x1) = true then (
 none)
 else (
 (nck a0).bind fun _ =>
 ((rd h (padd a0 0) 0)).bind fun x2 =>
 (hrange h x2).bind fun o3 =>
 (some (h ++ [o3]) : Option H).bind fun h4 =>
 (L56_0 N N (a0, .nils, (.ptr (h).length 0 0), h4)).bind fun (x21, x22, h23) =>
 (F136 N (x22, (.fn 137 []), h23)).bind fun h24 =>
 (F140 N (x21, (.fn 141 []), h24)).bind fun (x25, h26) =>
 (F139 N (x21, x25, h26)).bind fun (x27, _) =>
 (scells h26 x27 5).bind fun cs30 =>
 (happ h26 x22 5 (snlen x27) cs30).bind fun (v28, h29) =>
 some (v28, h29)))
abbrev ks56 : List SK := [.one .ref]
abbrev rs56 : List SK := [.one .ref]
def e56 (N : Nat) : Env := ⟨Tryz.prog, 33, inTab [4, 23], inTab [], natTab [(4, 4), (18, 4), (20, 4)], inTab [], calTab [(135, .ro (mkFun ks135 rs135 (F135 N))), (136, .full (mkFun ks136 rs136 (F136 N))), (140, .full (mkFun ks140 rs140 (F140 N))), (139, .ro (mkFun ks139 rs139 (F139 N)))], altTab [], loopTab [(5, ⟨⟨.normal, [0, 3, 12], [.one .ref, .one .ref, .one .ref], [], []⟩, [⟨(.exit 0), [0, 3], [.one .ref, .one .ref], [], []⟩], L56_0 N⟩)], natTab [(15, 260)], inTab [2, 6, 7]⟩
theorem l56_0 (N : Nat) : ∀ A, (e56 N).lp (lid (loopAt Tryz.f56 0)) = some A → LoopOk (e56 N) N (loopAt Tryz.f56 0) A :=
  loopOk_of (A := ⟨⟨.normal, [0, 3, 12], [.one .ref, .one .ref, .one .ref], [], []⟩, [⟨(.exit 0), [0, 3], [.one .ref, .one .ref], [], []⟩], L56_0 N⟩) (by kernel_rfl) (fun _ => rfl) (fun _ _ => by kernel_rfl)
theorem fine56 (N : Nat) : Fine (e56 N) N 56 Tryz.f56 ks56 rs56 (F56 N) :=
  ⟨Tryz.func56, by kernel_rfl, by kernel_rfl, by kernel_rfl, loops_of ⟨l56_0 N, trivial⟩, by kernel_rfl, by kernel_rfl, fun _ => by kernel_rfl⟩
theorem good56 (N : Nat) : Go.L.Good (e56 N) := good_of ⟨gd135 N, ⟨gd136 N, ⟨gd140 N, ⟨gd139 N, trivial⟩⟩⟩⟩
theorem gd56 (N : Nat) : CalOk Tryz.prog 56 (.full (mkFun ks56 rs56 (F56 N))) := mkFun_good (fine56 N) (good56 N)
theorem gl56 (N : Nat) : CalOk Tryz.prog 56 (.gro (mkFun ks56 rs56 (locF true ks56 rs56 (F56 N)))) := loc_gro (gd56 N)

/-! ### 57: api.Out] -/
def F57 (N : Nat) : V × H → Option (V × H)
 | (a0, h) =>
 (isNilS a0).bind fun b1 =>
 (if b1 = true then (
 some (.nils, h))
 else (
 none))
abbrev ks57 : List SK := [.one .ref]
abbrev rs57 : List SK := [.one .ref]
def e57 (N : Nat) : Env := ⟨Tryz.prog, 8, inTab [], inTab [], natTab [], inTab [], calTab [], altTab [], loopTab [], natTab [], inTab [3]⟩
theorem fine57 (N : Nat) : Fine (e57 N) N 57 Tryz.f57 ks57 rs57 (F57 N) :=
  ⟨Tryz.func57, by kernel_rfl, by kernel_rfl, by kernel_rfl, loops_of trivial, by kernel_rfl, by kernel_rfl, fun _ => by kernel_rfl⟩
theorem good57 (N : Nat) : Go.L.Good (e57 N) := good_of trivial
theorem gd57 (N : Nat) : CalOk Tryz.prog 57 (.ro (mkFun ks57 rs57 (F57 N))) := mkFun_ro (fine57 N) (good57 N) (by kernel_rfl)

/-! ### 14: node.Node).Snap -/
def L14_0 (N : Nat) : Nat → V × Int × Int × V × V × V × V × V × V × V × V × V × V × Int × Int × V × V × V × V × V × V × V × V × V × V × V × Int × Int × V × H → Option (V × V × V × V × V × V × V × V × V × V × V × Int × Int × V × V × V × V × V × V × V × V × V × V × V × Int × Int × V × H)
 | 0, _ => none
 | n + 1, (x42, x43, x44, x45, x46, x47, x48, x49, x50, x51, x52, x53, x54, x55, x56, x57, x58, x59, x60, x61, x62, x63, x64, x65, x66, x67, x68, x69, x70, h71) =>
 (if (decide (x44 < x43)) = true then (
 none)
 else (
 some (x42, x45, x46, x47, x48, x49, x50, x51, x52, x53, x54, x55, x56, x57, x58, x59, x60, x61, x62, x63, x64, x65, x66, x67, x68, x69, x70, h71)))
def L14_2 (N : Nat) : Nat → V × V × Int × Int × Int × V × V × V × V × V × V × V × V × V × V × Int × Int × V × V × V × V × V × V × V × V × V × V × V × Int × Int × V × V × V × Int × Int × List V × H → Option (V × V × Int × Int × V × V × V × V × V × V × V × V × V × V × Int × Int × V × V × V × V × V × V × V × V × V × V × V × Int × Int × V × V × V × Int × Int × List V × H)
 | 0, _ => none
 | n + 1, (x177, x178, x179, x180, x181, x182, x183, x184, x185, x186, x187, x188, x189, x190, x191, x192, x193, x194, x195, x196, x197, x198, x199, x200, x201, x202, x203, x204, x205, x206, x207, x208, x209, x210, x211, cs212, h213) =>
 (if (decide (x181 < 3)) = true then (
 (F53 N (x208, x181, h213)).bind fun (x214, h215) =>
 (if 0 ≤ x181 then (if x181 < 3 then (
 (ck1 x214).bind fun _ =>
 (if (0 + Int.toNat x181 * 1) + 1 ≤ (cs212).length then (
 L14_2 N n (x177, x178, x179, x180, (IntKind.i64.wrap (x181 + 1)), x182, x183, x184, x185, x186, x187, x188, x189, x190, x191, x192, x193, x194, x195, x196, x197, x198, x199, x200, x201, x202, x203, x204, x205, x206, x207, x208, x209, x210, x211, (splice cs212 (0 + Int.toNat x181 * 1) [x214]), h215)) else none)) else none) else none))
 else (
 some (x177, x178, x179, x180, x182, x183, x184, x185, x186, x187, x188, x189, x190, x191, x192, x193, x194, x195, x196, x197, x198, x199, x200, x201, x202, x203, x204, x205, x206, x207, x208, x209, x210, x211, cs212, h213)))
def L14_1 (N : Nat) : Nat → V × V × Int × Int × V × V × V × V × V × V × V × V × V × V × Int × Int × V × V × V × V × V × V × V × V × V × V × V × Int × Int × V × H → Option (V × V × V × V × V × V × V × V × V × V × V × Int × Int × V × V × V × V × V × V × V × V × V × V × V × Int × Int × V × H)
 | 0, _ => none
 | n + 1, (x267, x268, x269, x270, x271, x272, x273, x274, x275, x276, x277, x278, x279, x280, x281, x282, x283, x284, x285, x286, x287, x288, x289, x290, x291, x292, x293, x294, x295, x296, h297) =>
 (if (decide (x270 < x269)) = true then (
 (sidx x268 x270 4).bind fun q298 =>
 ((rd h297 q298 0)).bind fun x299 =>
 ((rd h297 q298 1)).bind fun x300 =>
 (L.asInt .i64 (rd h297 q298 2)).bind fun x301 =>
 (L.asInt .i64 (rd h297 q298 3)).bind fun x302 =>
 (L14_2 N N (x267, x268, x269, x270, 0, x271, x272, x273, x274, x275, x276, x277, x278, x279, x280, x281, x282, x283, x284, x285, x286, x287, x288, x289, x290, x291, x292, x293, x294, x295, x296, x299, x300, x301, x302, [.nils, .nils, .nils], h297)).bind fun (x303, x304, x305, x306, x307, x308, x309, x310, x311, x312, x313, x314, x315, x316, x317, x318, x319, x320, x321, x322, x323, x324, x325, x326, x327, x328, x329, x330, x331, x332, x333, x334, x335, x336, cs337, h338) =>
 ((if 0 + 3 ≤ (cs337).length then some (((cs337).drop 0).take 3) else none) : Option (List V)).bind fun cs339 =>
 (if (cs339).length = 3 then (
 (if 0 + (cs339).length ≤ 3 then (
 (scells h338 (.rs 3 (chunks 3 1 (splice [.nils, .nils, .nils] 0 cs339))) 3).bind fun cs342 =>
 (happ h338 x324 3 (snlen (.rs 3 (chunks 3 1 (splice [.nils, .nils, .nils] 0 cs339)))) cs342).bind fun (v340, h341) =>
 (ck1 v340).bind fun _ =>
 (F54 N (x333, h341)).bind fun (x343, _) =>
 (happ h341 x325 1 1 [(.int .i64 x343)]).bind fun (v344, h345) =>
 (ck1 v344).bind fun _ =>
 (happ h345 x326 1 1 [(.int .i64 x335)]).bind fun (v346, h347) =>
 (ck1 v346).bind fun _ =>
 (happ h347 x327 1 1 [(.int .i64 x336)]).bind fun (v348, h349) =>
 (ck1 v348).bind fun _ =>
 (F55 N (x334, h349)).bind fun (x350, h351) =>
 (ck1 x350).bind fun _ =>
 (happ h351 x328 1 1 (List.flatMap V.cells [x350])).bind fun (v352, h353) =>
 (ck1 v352).bind fun _ =>
 L14_1 N n (x303, x304, x305, (IntKind.i64.wrap (x306 + 1)), x307, x308, x309, x310, x311, x312, x313, x314, x315, x316, x317, x318, x319, x320, x321, x322, x323, v340, v344, v346, v348, v352, x329, x330, x331, x332, h353)) else none)) else none))
 else (
 some (x267, x271, x272, x273, x274, x275, x276, x277, x278, x279, x280, x281, x282, x283, x284, x285, x286, x287, x288, x289, x290, x291, x292, x293, x294, x295, x296, h297)))
def F14 (N : Nat) : V × H → Option (V × V × V × V × V × V × V × V × V × V × Int × Int × V × H)
 | (a0, h) =>
 (F44 N (a0, h)).bind fun (x1, _) =>
 (if (!x1) = true then (
 none)
 else (
 (nck a0).bind fun _ =>
 ((rd h (padd a0 0) 0)).bind fun x2 =>
 (nck a0).bind fun _ =>
 ((rd h (padd a0 1) 0)).bind fun x3 =>
 (nck a0).bind fun _ =>
 ((rd h (padd a0 2) 0)).bind fun x4 =>
 Option.bind (α := (V × H)) (locF true ks47 rs47 (F47 N) ((x2, h) : V × H)) fun (x5, h6) =>
 (F48 N (x3, h6)).bind fun (x7, _) =>
 (F49 N (x4, h6)).bind fun (x8, h9) =>
 (ck1 x5).bind fun _ =>
 (ck1 x7).bind fun _ =>
 (ck1 x8).bind fun _ =>
 (F50 N (a0, h9)).bind fun (x10, _) =>
 (slen x10).bind fun n11 =>
 (L14_0 N N (a0, n11, 0, .nils, .nils, .nils, .nils, .nils, .nils, .nils, .nils, .nils, .nils, 0, 0, .nils, x5, x7, .nils, x8, .nils, .nils, .nils, .nils, .nils, .nils, 0, 0, .nils, h9)).bind fun (x72, x73, x74, x75, x76, x77, x78, x79, x80, x81, x82, x83, x84, x85, x86, x87, x88, x89, x90, x91, x92, x93, x94, x95, x96, x97, x98, h99) =>
 (nck x72).bind fun _ =>
 ((rd h99 (padd x72 5) 0)).bind fun x100 =>
 (slen x100).bind fun n101 =>
 (L14_1 N N (x72, x100, n101, 0, x73, x74, x75, x76, x77, x78, x79, x80, x81, x82, x83, x84, x85, x86, x87, x88, x89, x90, x91, x92, x93, x94, x95, x96, x97, x98, h99)).bind fun (x354, x355, x356, x357, x358, x359, x360, x361, x362, x363, x364, x365, x366, x367, x368, x369, x370, x371, x372, x373, x374, x375, x376, x377, x378, x379, x380, h381) =>
 (nck x354).bind fun _ =>
 ((rd h381 (padd x354 4) 0)).bind fun x382 =>
 (nck x354).bind fun _ =>
 (L.asInt .i64 (rd h381 (padd x354 7) 0)).bind fun x383 =>
 (nck x354).bind fun _ =>
 (L.asInt .i64 (rd h381 (padd x354 8) 0)).bind fun x384 =>
 (nck x354).bind fun _ =>
 ((rd h381 (padd x354 9) 0)).bind fun x385 =>
 Option.bind (α := (V × H)) (locF true ks56 rs56 (F56 N) ((x382, h381) : V × H)) fun (x386, h387) =>
 (F57 N (x385, h387)).bind fun (x388, _) =>
 (ck1 x386).bind fun _ =>
 (ck1 x388).bind fun _ =>
 some (x368, x369, x370, x371, x372, x373, x374, x375, x376, x386, x383, x384, x388, h387)))
abbrev ks14 : List SK := [.one .ref]
abbrev rs14 : List SK := [.agg [.ref, .ref, .ref, .ref, .ref, .ref, .ref, .ref, .ref, .ref, (.int .i64), (.int .i64), .ref]]
def e14 (N : Nat) : Env := ⟨Tryz.prog, 147, inTab [2, 3, 7, 8, 64, 90, 98, 105, 112, 120], inTab [], natTab [(2, 2), (3, 3), (7, 7), (8, 8), (29, 3), (30, 3), (31, 3), (39, 3), (66, 3), (81, 7), (85, 8), (87, 3), (92, 3), (93, 3), (95, 7), (100, 3), (101, 3), (103, 7), (107, 3), (108, 3), (110, 7), (114, 3), (115, 3), (117, 7), (122, 3), (142, 3), (143, 3), (144, 3), (145, 3)], inTab [], calTab [(44, .ro (mkFun ks44 rs44 (F44 N))), (47, .gro (mkFun ks47 rs47 (locF true ks47 rs47 (F47 N)))), (48, .ro (mkFun ks48 rs48 (F48 N))), (49, .full (mkFun ks49 rs49 (F49 N))), (50, .ro (mkFun ks50 rs50 (F50 N))), (53, .gro (mkFun ks53 rs53 (F53 N))), (54, .ro (mkFun ks54 rs54 (F54 N))), (55, .full (mkFun ks55 rs55 (F55 N))), (56, .gro (mkFun ks56 rs56 (locF true ks56 rs56 (F56 N)))), (57, .ro (mkFun ks57 rs57 (F57 N)))], altTab [], loopTab [(6, ⟨⟨.normal, [0, 2, 3, 34, 35], [.one .ref, .lp 2 0, .lp 3 0, .one (.int .i64), .one (.int .i64)], [2, 3], [.cells [.ref, .ref, .ref, .ref, .ref, .ref, .ref, .ref, .ref, .ref, (.int .i64), (.int .i64), .ref], .cells [.ref, .ref, .ref, .ref, .ref, .ref, .ref, .ref, .ref, .ref, (.int .i64), (.int .i64), .ref]]⟩, [⟨(.exit 0), [0, 2, 3], [.one .ref, .lp 2 0, .lp 3 0], [2, 3], [.cells [.ref, .ref, .ref, .ref, .ref, .ref, .ref, .ref, .ref, .ref, (.int .i64), (.int .i64), .ref], .cells [.ref, .ref, .ref, .ref, .ref, .ref, .ref, .ref, .ref, .ref, (.int .i64), (.int .i64), .ref]]⟩], L14_0 N⟩), (11, ⟨⟨.normal, [0, 2, 3, 71, 72, 73], [.one .ref, .lp 2 0, .lp 3 0, .one .ref, .one (.int .i64), .one (.int .i64)], [2, 3], [.cells [.ref, .ref, .ref, .ref, .ref, .ref, .ref, .ref, .ref, .ref, (.int .i64), (.int .i64), .ref], .cells [.ref, .ref, .ref, .ref, .ref, .ref, .ref, .ref, .ref, .ref, (.int .i64), (.int .i64), .ref]]⟩, [⟨(.exit 2), [0, 2, 3], [.one .ref, .lp 2 0, .lp 3 0], [2, 3], [.cells [.ref, .ref, .ref, .ref, .ref, .ref, .ref, .ref, .ref, .ref, (.int .i64), (.int .i64), .ref], .cells [.ref, .ref, .ref, .ref, .ref, .ref, .ref, .ref, .ref, .ref, (.int .i64), (.int .i64), .ref]]⟩], L14_1 N⟩), (15, ⟨⟨.normal, [0, 2, 3, 7, 8, 71, 72, 73, 77], [.one .ref, .lp 2 0, .lp 3 0, .lp 7 0, .lp 8 0, .one .ref, .one (.int .i64), .one (.int .i64), .one (.int .i64)], [2, 3, 7, 8], [.cells [.ref, .ref, .ref, .ref, .ref, .ref, .ref, .ref, .ref, .ref, (.int .i64), (.int .i64), .ref], .cells [.ref, .ref, .ref, .ref, .ref, .ref, .ref, .ref, .ref, .ref, (.int .i64), (.int .i64), .ref], .cells [.ref, .ref, (.int .i64), (.int .i64)], .blk]⟩, [⟨(.exit 4), [0, 2, 3, 7, 8, 71, 72, 73], [.one .ref, .lp 2 0, .lp 3 0, .lp 7 0, .lp 8 0, .one .ref, .one (.int .i64), .one (.int .i64)], [2, 3, 7, 8], [.cells [.ref, .ref, .ref, .ref, .ref, .ref, .ref, .ref, .ref, .ref, (.int .i64), (.int .i64), .ref], .cells [.ref, .ref, .ref, .ref, .ref, .ref, .ref, .ref, .ref, .ref, (.int .i64), (.int .i64), .ref], .cells [.ref, .ref, (.int .i64), (.int .i64)], .blk]⟩], L14_2 N⟩)], natTab [], inTab [3, 7, 8, 9]⟩
theorem l14_0 (N : Nat) : ∀ A, (e14 N).lp (lid (loopAt Tryz.f14 0)) = some A → LoopOk (e14 N) N (loopAt Tryz.f14 0) A :=
  loopOk_of (A := ⟨⟨.normal, [0, 2, 3, 34, 35], [.one .ref, .lp 2 0, .lp 3 0, .one (.int .i64), .one (.int .i64)], [2, 3], [.cells [.ref, .ref, .ref, .ref, .ref, .ref, .ref, .ref, .ref, .ref, (.int .i64), (.int .i64), .ref], .cells [.ref, .ref, .ref, .ref, .ref, .ref, .ref, .ref, .ref, .ref, (.int .i64), (.int .i64), .ref]]⟩, [⟨(.exit 0), [0, 2, 3], [.one .ref, .lp 2 0, .lp 3 0], [2, 3], [.cells [.ref, .ref, .ref, .ref, .ref, .ref, .ref, .ref, .ref, .ref, (.int .i64), (.int .i64), .ref], .cells [.ref, .ref, .ref, .ref, .ref, .ref, .ref, .ref, .ref, .ref, (.int .i64), (.int .i64), .ref]]⟩], L14_0 N⟩) (by kernel_rfl) (fun _ => rfl) (fun _ _ => by kernel_rfl)
theorem l14_1 (N : Nat) : ∀ A, (e14 N).lp (lid (loopAt Tryz.f14 1)) = some A → LoopOk (e14 N) N (loopAt Tryz.f14 1) A :=
  loopOk_of (A := ⟨⟨.normal, [0, 2, 3, 71, 72, 73], [.one .ref, .lp 2 0, .lp 3 0, .one .ref, .one (.int .i64), .one (.int .i64)], [2, 3], [.cells [.ref, .ref, .ref, .ref, .ref, .ref, .ref, .ref, .ref, .ref, (.int .i64), (.int .i64), .ref], .cells [.ref, .ref, .ref, .ref, .ref, .ref, .ref, .ref, .ref, .ref, (.int .i64), (.int .i64), .ref]]⟩, [⟨(.exit 2), [0, 2, 3], [.one .ref, .lp 2 0, .lp 3 0], [2, 3], [.cells [.ref, .ref, .ref, .ref, .ref, .ref, .ref, .ref, .ref, .ref, (.int .i64), (.int .i64), .ref], .cells [.ref, .ref, .ref, .ref, .ref, .ref, .ref, .ref, .ref, .ref, (.int .i64), (.int .i64), .ref]]⟩], L14_1 N⟩) (by kernel_rfl) (fun _ => rfl) (fun _ _ => by kernel_rfl)
theorem l14_2 (N : Nat) : ∀ A, (e14 N).lp (lid (loopAt Tryz.f14 2)) = some A → LoopOk (e14 N) N (loopAt Tryz.f14 2) A :=
  loopOk_of (A := ⟨⟨.normal, [0, 2, 3, 7, 8, 71, 72, 73, 77], [.one .ref, .lp 2 0, .lp 3 0, .lp 7 0, .lp 8 0, .one .ref, .one (.int .i64), .one (.int .i64), .one (.int .i64)], [2, 3, 7, 8], [.cells [.ref, .ref, .ref, .ref, .ref, .ref, .ref, .ref, .ref, .ref, (.int .i64), (.int .i64), .ref], .cells [.ref, .ref, .ref, .ref, .ref, .ref, .ref, .ref, .ref, .ref, (.int .i64), (.int .i64), .ref], .cells [.ref, .ref, (.int .i64), (.int .i64)], .blk]⟩, [⟨(.exit 4), [0, 2, 3, 7, 8, 71, 72, 73], [.one .ref, .lp 2 0, .lp 3 0, .lp 7 0, .lp 8 0, .one .ref, .one (.int .i64), .one (.int .i64)], [2, 3, 7, 8], [.cells [.ref, .ref, .ref, .ref, .ref, .ref, .ref, .ref, .ref, .ref, (.int .i64), (.int .i64), .ref], .cells [.ref, .ref, .ref, .ref, .ref, .ref, .ref, .ref, .ref, .ref, (.int .i64), (.int .i64), .ref], .cells [.ref, .ref, (.int .i64), (.int .i64)], .blk]⟩], L14_2 N⟩) (by kernel_rfl) (fun _ => rfl) (fun _ _ => by kernel_rfl)
theorem fine14 (N : Nat) : Fine (e14 N) N 14 Tryz.f14 ks14 rs14 (F14 N) :=
  ⟨Tryz.func14, by kernel_rfl, by kernel_rfl, by kernel_rfl, loops_of ⟨l14_0 N, ⟨l14_1 N, ⟨l14_2 N, trivial⟩⟩⟩, by kernel_rfl, by kernel_rfl, fun _ => by kernel_rfl⟩
theorem good14 (N : Nat) : Go.L.Good (e14 N) := good_of ⟨gd44 N, ⟨gl47 N, ⟨gd48 N, ⟨gd49 N, ⟨gd50 N, ⟨gdg53 N, ⟨gd54 N, ⟨gd55 N, ⟨gl56 N, ⟨gd57 N, trivial⟩⟩⟩⟩⟩⟩⟩⟩⟩⟩
theorem gd14 (N : Nat) : CalOk Tryz.prog 14 (.full (mkFun ks14 rs14 (F14 N))) := mkFun_good (fine14 N) (good14 N)
theorem gl14 (N : Nat) : CalOk Tryz.prog 14 (.full (mkFun ks14 rs14 (locF false ks14 rs14 (F14 N)))) := loc_full (gd14 N)

/-! ### 215: wheel.class -/
def F215 (N : Nat) : Int × H → Option (Bool × H)
 | (a0, h) =>
 (if (decide (a0 ≥ 0)) = true then (
 some ((decide (a0 < 3)), h))
 else (
 some (false, h))).bind fun (b1, h2) =>
 some (b1, h2)
abbrev ks215 : List SK := [.one (.int .i64)]
abbrev rs215 : List SK := [.one .bool]
def e215 (N : Nat) : Env := ⟨Tryz.prog, 9, inTab [], inTab [], natTab [], inTab [], calTab [], altTab [], loopTab [], natTab [], inTab []⟩
theorem fine215 (N : Nat) : Fine (e215 N) N 215 Tryz.f215 ks215 rs215 (F215 N) :=
  ⟨Tryz.func215, by kernel_rfl, by kernel_rfl, by kernel_rfl, loops_of trivial, by kernel_rfl, by kernel_rfl, fun _ => by kernel_rfl⟩
theorem good215 (N : Nat) : Go.L.Good (e215 N) := good_of trivial
theorem gd215 : CalOk Tryz.prog 215 (.pure (mkP ks215 rs215 (F215 100))) := mkP_good (fine215 100) (good215 100) (by kernel_rfl) (by kernel_rfl)

/-! ### 99: wheel.Check -/
def L99_0 (N : Nat) : Nat → V × Int × Int × List V × H → Option (List V × H)
 | 0, _ => none
 | n + 1, (x11, x12, x13, cs14, h15) =>
 (if (decide (x13 < x12)) = true then (
 (sidx x11 x13 1).bind fun q16 =>
 (L.asInt .i64 (rd h15 q16 0)).bind fun x17 =>
 (F215 100 (x17, [])).bind fun (x18, _) =>
 (if (!x18) = true then (
 none)
 else (
 (if 0 ≤ x17 then (if x17 < 3 then (
 (if (0 + Int.toNat x17 * 1) + 1 ≤ (cs14).length then (
 L99_0 N n (x11, x12, (IntKind.i64.wrap (x13 + 1)), (splice cs14 (0 + Int.toNat x17 * 1) [(.bool true)]), h15)) else none)) else none) else none))))
 else (
 some (cs14, h15)))
def L99_1 (N : Nat) : Nat → Int × List V × H → Option (H)
 | 0, _ => none
 | n + 1, (x25, cs26, h27) =>
 (if (decide (x25 < 3)) = true then (
 (if 0 ≤ x25 then (if x25 < 3 then (
 (L.asBool cs26[((0 + Int.toNat x25 * 1) + 0)]?).bind fun x28 =>
 (if (!x28) = true then (
 none)
 else (
 L99_1 N n ((IntKind.i64.wrap (x25 + 1)), cs26, h27)))) else none) else none))
 else (
 some h27))
def F99 (N : Nat) : V × H → Option (Int × H)
 | (a0, h) =>
 (slen a0).bind fun n1 =>
 (if (decide (n1 > 64)) = true then (
 none)
 else (
 (slen a0).bind fun n2 =>
 (L99_0 N N (a0, n2, 0, [(.bool false), (.bool false), (.bool false)], h)).bind fun (cs19, h20) =>
 (L99_1 N N (0, cs19, h20)).bind fun h29 =>
 some (0, h29)))
abbrev ks99 : List SK := [.one .ref]
abbrev rs99 : List SK := [.one (.int .i64)]
def e99 (N : Nat) : Env := ⟨Tryz.prog, 30, inTab [3], inTab [], natTab [(3, 3), (20, 3), (26, 3)], inTab [], calTab [(215, .pure (mkP ks215 rs215 (F215 100)))], altTab [], loopTab [(5, ⟨⟨.normal, [3, 10, 11, 12], [.lp 3 0, .one .ref, .one (.int .i64), .one (.int .i64)], [3], [.blk]⟩, [⟨(.exit 0), [3], [.lp 3 0], [3], [.blk]⟩], L99_0 N⟩), (12, ⟨⟨.normal, [3, 22], [.lp 3 0, .one (.int .i64)], [3], [.blk]⟩, [⟨(.exit 2), [], [], [], []⟩], L99_1 N⟩)], natTab [], inTab [2, 8, 15]⟩
theorem l99_0 (N : Nat) : ∀ A, (e99 N).lp (lid (loopAt Tryz.f99 0)) = some A → LoopOk (e99 N) N (loopAt Tryz.f99 0) A :=
  loopOk_of (A := ⟨⟨.normal, [3, 10, 11, 12], [.lp 3 0, .one .ref, .one (.int .i64), .one (.int .i64)], [3], [.blk]⟩, [⟨(.exit 0), [3], [.lp 3 0], [3], [.blk]⟩], L99_0 N⟩) (by kernel_rfl) (fun _ => rfl) (fun _ _ => by kernel_rfl)
theorem l99_1 (N : Nat) : ∀ A, (e99 N).lp (lid (loopAt Tryz.f99 1)) = some A → LoopOk (e99 N) N (loopAt Tryz.f99 1) A :=
  loopOk_of (A := ⟨⟨.normal, [3, 22], [.lp 3 0, .one (.int .i64)], [3], [.blk]⟩, [⟨(.exit 2), [], [], [], []⟩], L99_1 N⟩) (by kernel_rfl) (fun _ => rfl) (fun _ _ => by kernel_rfl)
theorem fine99 (N : Nat) : Fine (e99 N) N 99 Tryz.f99 ks99 rs99 (F99 N) :=
  ⟨Tryz.func99, by kernel_rfl, by kernel_rfl, by kernel_rfl, loops_of ⟨l99_0 N, ⟨l99_1 N, trivial⟩⟩, by kernel_rfl, by kernel_rfl, fun _ => by kernel_rfl⟩
theorem good99 (N : Nat) : Go.L.Good (e99 N) := good_of ⟨gd215, trivial⟩
theorem gd99 (N : Nat) : CalOk Tryz.prog 99 (.ro (mkFun ks99 rs99 (F99 N))) := mkFun_ro (fine99 N) (good99 N) (by kernel_rfl)

/-! ### 202: node.within -/
def F202 (N : Nat) : Int × Int × Int × H → Option (Bool × H)
 | (a0, a1, a2, h) =>
 (if (decide (a0 ≥ a1)) = true then (
 some ((decide (a0 ≤ a2)), h))
 else (
 some (false, h))).bind fun (b1, h2) =>
 some (b1, h2)
abbrev ks202 : List SK := [.one (.int .i64), .one (.int .i64), .one (.int .i64)]
abbrev rs202 : List SK := [.one .bool]
def e202 (N : Nat) : Env := ⟨Tryz.prog, 15, inTab [], inTab [], natTab [], inTab [], calTab [], altTab [], loopTab [], natTab [], inTab []⟩
theorem fine202 (N : Nat) : Fine (e202 N) N 202 Tryz.f202 ks202 rs202 (F202 N) :=
  ⟨Tryz.func202, by kernel_rfl, by kernel_rfl, by kernel_rfl, loops_of trivial, by kernel_rfl, by kernel_rfl, fun _ => by kernel_rfl⟩
theorem good202 (N : Nat) : Go.L.Good (e202 N) := good_of trivial
theorem gd202 : CalOk Tryz.prog 202 (.pure (mkP ks202 rs202 (F202 100))) := mkP_good (fine202 100) (good202 100) (by kernel_rfl) (by kernel_rfl)

/-! ### 390: api.Entry] -/
def F390 (N : Nat) : Int × H → Option (V × Int × H)
 | (a0, h) =>
 (if (decide (a0 < 1)) = true then (
 some (true, h))
 else (
 some ((decide (a0 > 65536)), h))).bind fun (b1, h2) =>
 (if b1 = true then (
 none)
 else (
 (some (h2 ++ [O.cells 0 [(.int .i64 a0), .nils]]) : Option H).bind fun h3 =>
 some ((.ptr (h2).length 0 0), 0, h3)))
abbrev ks390 : List SK := [.one (.int .i64)]
abbrev rs390 : List SK := [.one .ref, .one (.int .i64)]
def e390 (N : Nat) : Env := ⟨Tryz.prog, 13, inTab [], inTab [], natTab [], inTab [], calTab [], altTab [], loopTab [], natTab [], inTab [2]⟩
theorem fine390 (N : Nat) : Fine (e390 N) N 390 Tryz.f390 ks390 rs390 (F390 N) :=
  ⟨Tryz.func390, by kernel_rfl, by kernel_rfl, by kernel_rfl, loops_of trivial, by kernel_rfl, by kernel_rfl, fun _ => by kernel_rfl⟩
theorem good390 (N : Nat) : Go.L.Good (e390 N) := good_of trivial
theorem gdg390 (N : Nat) : CalOk Tryz.prog 390 (.gro (mkFun ks390 rs390 (F390 N))) := mkFun_groC (fine390 N) (good390 N) (by kernel_rfl)

/-! ### 441: api.Entry]).Room -/
def F441 (N : Nat) : V × H → Option (Int × H)
 | (a0, h) =>
 (F249 N (a0, h)).bind fun (x1, _) =>
 (if (!x1) = true then (
 none)
 else (
 (nck a0).bind fun _ =>
 (L.asInt .i64 (rd h (padd a0 0) 0)).bind fun x2 =>
 (nck a0).bind fun _ =>
 ((rd h (padd a0 1) 0)).bind fun x3 =>
 (slen x3).bind fun n4 =>
 some ((IntKind.i64.wrap (x2 - n4)), h)))
abbrev ks441 : List SK := [.one .ref]
abbrev rs441 : List SK := [.one (.int .i64)]
def e441 (N : Nat) : Env := ⟨Tryz.prog, 16, inTab [], inTab [], natTab [], inTab [], calTab [(249, .ro (mkFun ks249 rs249 (F249 N)))], altTab [], loopTab [], natTab [], inTab [2]⟩
theorem fine441 (N : Nat) : Fine (e441 N) N 441 Tryz.f441 ks441 rs441 (F441 N) :=
  ⟨Tryz.func441, by kernel_rfl, by kernel_rfl, by kernel_rfl, loops_of trivial, by kernel_rfl, by kernel_rfl, fun _ => by kernel_rfl⟩
theorem good441 (N : Nat) : Go.L.Good (e441 N) := good_of ⟨gd249 N, trivial⟩
theorem gd441 (N : Nat) : CalOk Tryz.prog 441 (.ro (mkFun ks441 rs441 (F441 N))) := mkFun_ro (fine441 N) (good441 N) (by kernel_rfl)

/-! ### 358: api.Entry]).Join -/
def F358 (N : Nat) : V × V × H → Option (Int × H)
 | (a0, a1, h) =>
 (F249 N (a0, h)).bind fun (x1, _) =>
 (if (!x1) = true then (
 none)
 else (
 (slen a1).bind fun n2 =>
 (F441 N (a0, h)).bind fun (x3, _) =>
 (if (decide (n2 > x3)) = true then (
 none)
 else (
 (nck a0).bind fun _ =>
 ((rd h (padd a0 1) 0)).bind fun x4 =>
 (scells h a1 3).bind fun cs7 =>
 (happ h x4 3 (snlen a1) cs7).bind fun (v5, h6) =>
 (nck a0).bind fun _ =>
 (ck1 v5).bind fun _ =>
 (wr h6 (padd a0 1) [v5]).bind fun h8 =>
 some (0, h8)))))
abbrev ks358 : List SK := [.one .ref, .one .ref]
abbrev rs358 : List SK := [.one (.int .i64)]
def e358 (N : Nat) : Env := ⟨Tryz.prog, 22, inTab [], inTab [], natTab [], inTab [], calTab [(249, .ro (mkFun ks249 rs249 (F249 N))), (441, .ro (mkFun ks441 rs441 (F441 N)))], altTab [], loopTab [], natTab [], inTab [2, 4]⟩
theorem fine358 (N : Nat) : Fine (e358 N) N 358 Tryz.f358 ks358 rs358 (F358 N) :=
  ⟨Tryz.func358, by kernel_rfl, by kernel_rfl, by kernel_rfl, loops_of trivial, by kernel_rfl, by kernel_rfl, fun _ => by kernel_rfl⟩
theorem good358 (N : Nat) : Go.L.Good (e358 N) := good_of ⟨gd249 N, ⟨gd441 N, trivial⟩⟩
theorem gd358 (N : Nat) : CalOk Tryz.prog 358 (.full (mkFun ks358 rs358 (F358 N))) := mkFun_good (fine358 N) (good358 N)

/-! ### 308: core.filled -/
def F308 (N : Nat) : V × H → Option (V × H)
 | (a0, h) =>
 (F390 N (64, h)).bind fun (x1, x2, h3) =>
 (F358 N (x1, a0, h3)).bind fun (x4, h5) =>
 (ck1 x1).bind fun _ =>
 some (x1, h5)
abbrev ks308 : List SK := [.one .ref]
abbrev rs308 : List SK := [.agg [.ref]]
def e308 (N : Nat) : Env := ⟨Tryz.prog, 14, inTab [2], inTab [], natTab [(2, 2)], inTab [], calTab [(390, .gro (mkFun ks390 rs390 (F390 N))), (358, .full (mkFun ks358 rs358 (F358 N)))], altTab [], loopTab [], natTab [], inTab []⟩
theorem fine308 (N : Nat) : Fine (e308 N) N 308 Tryz.f308 ks308 rs308 (F308 N) :=
  ⟨Tryz.func308, by kernel_rfl, by kernel_rfl, by kernel_rfl, loops_of trivial, by kernel_rfl, by kernel_rfl, fun _ => by kernel_rfl⟩
theorem good308 (N : Nat) : Go.L.Good (e308 N) := good_of ⟨gdg390 N, ⟨gd358 N, trivial⟩⟩
theorem gd308 (N : Nat) : CalOk Tryz.prog 308 (.full (mkFun ks308 rs308 (F308 N))) := mkFun_good (fine308 N) (good308 N)

/-! ### 203: core.Load -/
def L203_1 (N : Nat) : Nat → V × Int × Bool × List V × Int × Int × Int × List V × H → Option (V × Int × Bool × List V × Int × List V × H)
 | 0, _ => none
 | n + 1, (x25, x26, x27, cs28, x29, x30, x31, cs32, h33) =>
 (if (decide (x31 < x30)) = true then (
 none)
 else (
 some (x25, x26, x27, cs28, x29, cs32, h33)))
def L203_0 (N : Nat) : Nat → V × Int × Bool × List V × Int × List V × H → Option (V × Int × Bool × List V × H)
 | 0, _ => none
 | n + 1, (x41, x42, x43, cs44, x45, cs46, h47) =>
 (if (decide (x45 < 3)) = true then (
 (if 0 ≤ x45 then (if x45 < 3 then (
 ((cs44)[Int.toNat x45 * 1]?).bind fun x48 =>
 (if x43 = true then (
 some (true, h47))
 else (
 (slen x48).bind fun n51 =>
 some ((decide (n51 > 64)), h47))).bind fun (b49, h50) =>
 (slen x48).bind fun n52 =>
 (L203_1 N N (x41, x42, b49, cs44, x45, n52, 0, cs46, h50)).bind fun (x53, x54, x55, cs56, x57, cs58, h59) =>
 L203_0 N n (x53, x54, x55, cs56, (IntKind.i64.wrap (x57 + 1)), cs58, h59)) else none) else none))
 else (
 some (x41, x42, x43, cs46, h47)))
def L203_2 (N : Nat) : Nat → V × List V × Int × H → Option (V × H)
 | 0, _ => none
 | n + 1, (x81, cs82, x83, h84) =>
 (if (decide (x83 < 3)) = true then (
 (if 0 ≤ x83 then (if x83 < 3 then (
 ((cs82)[Int.toNat x83 * 1]?).bind fun x85 =>
 (F308 N (x85, h84)).bind fun (x86, h87) =>
 (nck x81).bind fun _ =>
 (aidx (padd x81 2) x83 3 1).bind fun q88 =>
 (wr h87 q88 [x86]).bind fun h89 =>
 L203_2 N n (x81, cs82, (IntKind.i64.wrap (x83 + 1)), h89)) else none) else none))
 else (
 some (x81, h84)))
def F203 (N : Nat) : V × Int × List V × H → Option (V × Int × H)
 | (a0, a1, a2, h) =>
 (if (a2).length = 3 then (
 (F99 N (a0, h)).bind fun (x1, _) =>
 (if (x1 != 0) = true then (
 none)
 else (
 (some (h ++ [O.map 0 [] []]) : Option H).bind fun h2 =>
 ((if 0 + 3 ≤ (a2).length then some (((a2).drop 0).take 3) else none) : Option (List V)).bind fun cs3 =>
 (L203_0 N N (a0, a1, false, cs3, 0, a2, h2)).bind fun (x60, x61, x62, cs63, h64) =>
 (if (decide (x61 < 0)) = true then (
 some (true, h64))
 else (
 (slen x60).bind fun n67 =>
 some ((decide (x61 ≥ n67)), h64))).bind fun (b65, h66) =>
 (if b65 = true then (
 none)
 else (
 (if x62 = true then (
 none)
 else (
 Option.bind (α := (V × H)) (locF true ks47 rs47 (F47 N) ((x60, h66) : V × H)) fun (x68, h69) =>
 (ck1 x68).bind fun _ =>
 (some (h69 ++ [O.cells 0 [x68, (.int .i64 x61), .nilp, .nilp, .nilp]]) : Option H).bind fun h70 =>
 ((if 0 + 3 ≤ (cs63).length then some (((cs63).drop 0).take 3) else none) : Option (List V)).bind fun cs71 =>
 (L203_2 N N ((.ptr (h69).length 0 0), cs71, 0, h70)).bind fun (x90, h91) =>
 some (x90, 0, h91)))))))) else none)
abbrev ks203 : List SK := [.one .ref, .one (.int .i64), .blk]
abbrev rs203 : List SK := [.one .ref, .one (.int .i64)]
def e203 (N : Nat) : Env := ⟨Tryz.prog, 84, inTab [5, 14], inTab [], natTab [(5, 5), (14, 14), (41, 14), (48, 14)], inTab [], calTab [(99, .ro (mkFun ks99 rs99 (F99 N))), (47, .gro (mkFun ks47 rs47 (locF true ks47 rs47 (F47 N)))), (308, .full (mkFun ks308 rs308 (F308 N)))], altTab [], loopTab [(7, ⟨⟨.normal, [0, 1, 5, 10, 24, 25], [.one .ref, .one (.int .i64), .lp 5 0, .one .bool, .blk, .one (.int .i64)], [5], [.blk]⟩, [⟨(.exit 0), [0, 1, 5, 10], [.one .ref, .one (.int .i64), .lp 5 0, .one .bool], [5], [.blk]⟩], L203_0 N⟩), (11, ⟨⟨.normal, [0, 1, 5, 10, 24, 25, 35, 36], [.one .ref, .one (.int .i64), .lp 5 0, .one .bool, .blk, .one (.int .i64), .one (.int .i64), .one (.int .i64)], [5], [.blk]⟩, [⟨(.exit 2), [0, 1, 5, 10, 24, 25], [.one .ref, .one (.int .i64), .lp 5 0, .one .bool, .blk, .one (.int .i64)], [5], [.blk]⟩], L203_1 N⟩), (24, ⟨⟨.normal, [15, 70, 71], [.one .ref, .blk, .one (.int .i64)], [], []⟩, [⟨(.exit 5), [15], [.one .ref], [], []⟩], L203_2 N⟩)], natTab [], inTab [3, 12, 13, 14, 15, 16, 19, 21]⟩
theorem l203_0 (N : Nat) : ∀ A, (e203 N).lp (lid (loopAt Tryz.f203 0)) = some A → LoopOk (e203 N) N (loopAt Tryz.f203 0) A :=
  loopOk_of (A := ⟨⟨.normal, [0, 1, 5, 10, 24, 25], [.one .ref, .one (.int .i64), .lp 5 0, .one .bool, .blk, .one (.int .i64)], [5], [.blk]⟩, [⟨(.exit 0), [0, 1, 5, 10], [.one .ref, .one (.int .i64), .lp 5 0, .one .bool], [5], [.blk]⟩], L203_0 N⟩) (by kernel_rfl) (fun _ => rfl) (fun _ _ => by kernel_rfl)
theorem l203_1 (N : Nat) : ∀ A, (e203 N).lp (lid (loopAt Tryz.f203 1)) = some A → LoopOk (e203 N) N (loopAt Tryz.f203 1) A :=
  loopOk_of (A := ⟨⟨.normal, [0, 1, 5, 10, 24, 25, 35, 36], [.one .ref, .one (.int .i64), .lp 5 0, .one .bool, .blk, .one (.int .i64), .one (.int .i64), .one (.int .i64)], [5], [.blk]⟩, [⟨(.exit 2), [0, 1, 5, 10, 24, 25], [.one .ref, .one (.int .i64), .lp 5 0, .one .bool, .blk, .one (.int .i64)], [5], [.blk]⟩], L203_1 N⟩) (by kernel_rfl) (fun _ => rfl) (fun _ _ => by kernel_rfl)
theorem l203_2 (N : Nat) : ∀ A, (e203 N).lp (lid (loopAt Tryz.f203 2)) = some A → LoopOk (e203 N) N (loopAt Tryz.f203 2) A :=
  loopOk_of (A := ⟨⟨.normal, [15, 70, 71], [.one .ref, .blk, .one (.int .i64)], [], []⟩, [⟨(.exit 5), [15], [.one .ref], [], []⟩], L203_2 N⟩) (by kernel_rfl) (fun _ => rfl) (fun _ _ => by kernel_rfl)
theorem fine203 (N : Nat) : Fine (e203 N) N 203 Tryz.f203 ks203 rs203 (F203 N) :=
  ⟨Tryz.func203, by kernel_rfl, by kernel_rfl, by kernel_rfl, loops_of ⟨l203_0 N, ⟨l203_1 N, ⟨l203_2 N, trivial⟩⟩⟩, by kernel_rfl, by kernel_rfl, fun _ => by kernel_rfl⟩
theorem good203 (N : Nat) : Go.L.Good (e203 N) := good_of ⟨gd99 N, ⟨gl47 N, ⟨gd308 N, trivial⟩⟩⟩
theorem gd203 (N : Nat) : CalOk Tryz.prog 203 (.full (mkFun ks203 rs203 (F203 N))) := mkFun_good (fine203 N) (good203 N)

/-! ### 204: steal.Prefix -/
def L204_0 (N : Nat) : Nat → V × Int × H → Option (H)
 | 0, _ => none
 | n + 1, (x5, x6, h7) =>
 (slen x5).bind fun n8 =>
 (if (decide (x6 < n8)) = true then (
 none)
 else (
 some h7))
def F204 (N : Nat) : V × H → Option (Bool × H)
 | (a0, h) =>
 (L204_0 N N (a0, 1, h)).bind fun h9 =>
 some (true, h9)
abbrev ks204 : List SK := [.one .ref]
abbrev rs204 : List SK := [.one .bool]
def e204 (N : Nat) : Env := ⟨Tryz.prog, 24, inTab [], inTab [], natTab [], inTab [], calTab [], altTab [], loopTab [(2, ⟨⟨.normal, [0, 3], [.one .ref, .one (.int .i64)], [], []⟩, [⟨(.exit 0), [], [], [], []⟩], L204_0 N⟩)], natTab [], inTab [3, 4, 5]⟩
theorem l204_0 (N : Nat) : ∀ A, (e204 N).lp (lid (loopAt Tryz.f204 0)) = some A → LoopOk (e204 N) N (loopAt Tryz.f204 0) A :=
  loopOk_of (A := ⟨⟨.normal, [0, 3], [.one .ref, .one (.int .i64)], [], []⟩, [⟨(.exit 0), [], [], [], []⟩], L204_0 N⟩) (by kernel_rfl) (fun _ => rfl) (fun _ _ => by kernel_rfl)
theorem fine204 (N : Nat) : Fine (e204 N) N 204 Tryz.f204 ks204 rs204 (F204 N) :=
  ⟨Tryz.func204, by kernel_rfl, by kernel_rfl, by kernel_rfl, loops_of ⟨l204_0 N, trivial⟩, by kernel_rfl, by kernel_rfl, fun _ => by kernel_rfl⟩
theorem good204 (N : Nat) : Go.L.Good (e204 N) := good_of trivial
theorem gd204 (N : Nat) : CalOk Tryz.prog 204 (.ro (mkFun ks204 rs204 (F204 N))) := mkFun_ro (fine204 N) (good204 N) (by kernel_rfl)

/-! ### 92: node.cored -/
def L92_1 (N : Nat) : Nat → Int × Int × List V × Int × V × V × V × V × V × V × V × V × V × V × Int × Int × V × H → Option (Int × Int × V × V × V × V × V × V × V × V × V × V × Int × Int × V × H)
 | 0, _ => none
 | n + 1, (x79, x80, cs81, x82, x83, x84, x85, x86, x87, x88, x89, x90, x91, x92, x93, x94, x95, h96) =>
 (if (decide (x82 < 3)) = true then (
 (if 0 ≤ x82 then (if x82 < 3 then (
 ((cs81)[Int.toNat x82 * 1]?).bind fun x97 =>
 (F204 N (x97, h96)).bind fun (x98, _) =>
 (if (!x98) = true then (
 none)
 else (
 L92_1 N n (x79, x80, cs81, (IntKind.i64.wrap (x82 + 1)), x83, x84, x85, x86, x87, x88, x89, x90, x91, x92, x93, x94, x95, h96)))) else none) else none))
 else (
 some (x79, x80, x83, x84, x85, x86, x87, x88, x89, x90, x91, x92, x93, x94, x95, h96)))
def L92_0 (N : Nat) : Nat → Int × Int × V × V × V × V × V × V × V × V × V × V × Int × Int × V × H → Option (V × V × V × V × V × V × V × V × V × V × Int × Int × V × H)
 | 0, _ => none
 | n + 1, (x115, x116, x117, x118, x119, x120, x121, x122, x123, x124, x125, x126, x127, x128, x129, h130) =>
 (if (decide (x116 < x115)) = true then (
 (sidx x122 x116 1).bind fun q131 =>
 (L.asInt .i64 (rd h130 q131 0)).bind fun x132 =>
 (slen x117).bind fun n133 =>
 (F202 100 (x132, 0, (IntKind.i64.wrap (n133 - 1)), [])).bind fun (x134, _) =>
 (if (!x134) = true then (
 some (true, h130))
 else (
 (sidx x123 x116 1).bind fun q137 =>
 (L.asInt .i64 (rd h130 q137 0)).bind fun x138 =>
 (F202 100 (x138, 0, 4611686018427387903, [])).bind fun (x139, _) =>
 some ((!x139), h130))).bind fun (b135, h136) =>
 (if b135 = true then (
 some (true, h136))
 else (
 (sidx x124 x116 1).bind fun q142 =>
 (L.asInt .i64 (rd h136 q142 0)).bind fun x143 =>
 (sidx x123 x116 1).bind fun q144 =>
 (L.asInt .i64 (rd h136 q144 0)).bind fun x145 =>
 (F202 100 (x143, 0, x145, [])).bind fun (x146, _) =>
 some ((!x146), h136))).bind fun (b140, h141) =>
 (if b140 = true then (
 none)
 else (
 (sidx x122 x116 1).bind fun q147 =>
 (L.asInt .i64 (rd h141 q147 0)).bind fun x148 =>
 (sidx x121 x116 3).bind fun q149 =>
 (rdN h141 q149 3).bind fun cs150 =>
 (F203 N (x117, x148, cs150, h141)).bind fun (x151, x152, h153) =>
 (if (x152 != 0) = true then (
 none)
 else (
 (sidx x121 x116 3).bind fun q154 =>
 (rdN h153 q154 3).bind fun cs155 =>
 (L92_1 N N (x115, x116, cs155, 0, x117, x118, x119, x120, x121, x122, x123, x124, x125, x126, x127, x128, x129, h153)).bind fun (x156, x157, x158, x159, x160, x161, x162, x163, x164, x165, x166, x167, x168, x169, x170, h171) =>
 L92_0 N n (x156, (IntKind.i64.wrap (x157 + 1)), x158, x159, x160, x161, x162, x163, x164, x165, x166, x167, x168, x169, x170, h171))))))
 else (
 some (x117, x118, x119, x120, x121, x122, x123, x124, x125, x126, x127, x128, x129, h130)))
def L92_2 (N : Nat) : Nat → Int × Int × V × V × V × V × V × V × V × V × V × V × Int × Int × V × H → Option (V × V × V × V × V × V × V × V × V × V × Int × Int × V × H)
 | 0, _ => none
 | n + 1, (x210, x211, x212, x213, x214, x215, x216, x217, x218, x219, x220, x221, x222, x223, x224, h225) =>
 (if (decide (x211 < x210)) = true then (
 none)
 else (
 some (x212, x213, x214, x215, x216, x217, x218, x219, x220, x221, x222, x223, x224, h225)))
def L92_3 (N : Nat) : Nat → Int × Int × V × V × V × V × V × V × V × V × V × V × Int × Int × V × H → Option (V × V × V × V × V × V × V × V × V × V × Int × Int × V × H)
 | 0, _ => none
 | n + 1, (x257, x258, x259, x260, x261, x262, x263, x264, x265, x266, x267, x268, x269, x270, x271, h272) =>
 (if (decide (x258 < x257)) = true then (
 none)
 else (
 some (x259, x260, x261, x262, x263, x264, x265, x266, x267, x268, x269, x270, x271, h272)))
def F92 (N : Nat) : V × V × V × V × V × V × V × V × V × V × Int × Int × V × H → Option (Bool × H)
 | (a0_0, a0_1, a0_2, a0_3, a0_4, a0_5, a0_6, a0_7, a0_8, a0_9, a0_10, a0_11, a0_12, h) =>
 (slen a0_4).bind fun n1 =>
 (F99 N (a0_0, h)).bind fun (x2, _) =>
 (if (x2 != 0) = true then (
 some (true, h))
 else (
 (F202 100 (n1, 1, 16, [])).bind fun (x5, _) =>
 some ((!x5), h))).bind fun (b3, h4) =>
 (if b3 = true then (
 some (true, h4))
 else (
 (slen a0_5).bind fun n8 =>
 some ((n8 != n1), h4))).bind fun (b6, h7) =>
 (if b6 = true then (
 some (true, h7))
 else (
 (slen a0_6).bind fun n11 =>
 some ((n11 != n1), h7))).bind fun (b9, h10) =>
 (if b9 = true then (
 some (true, h10))
 else (
 (slen a0_7).bind fun n14 =>
 some ((n14 != n1), h10))).bind fun (b12, h13) =>
 (if b12 = true then (
 some (true, h13))
 else (
 (slen a0_8).bind fun n17 =>
 some ((n17 != n1), h13))).bind fun (b15, h16) =>
 (if b15 = true then (
 none)
 else (
 (L92_0 N N (n1, 0, a0_0, a0_1, a0_2, a0_3, a0_4, a0_5, a0_6, a0_7, a0_8, a0_9, a0_10, a0_11, a0_12, h16)).bind fun (x172, x173, x174, x175, x176, x177, x178, x179, x180, x181, x182, x183, x184, h185) =>
 (slen x173).bind fun n186 =>
 (if (decide (n186 > 32)) = true then (
 some (true, h185))
 else (
 (slen x184).bind fun n189 =>
 some ((decide (n189 > 4096)), h185))).bind fun (b187, h188) =>
 (if b187 = true then (
 some (true, h188))
 else (
 (slen x175).bind fun n192 =>
 some ((n192 != 256), h188))).bind fun (b190, h191) =>
 (if b190 = true then (
 none)
 else (
 (slen x173).bind fun n193 =>
 (L92_2 N N (n193, 0, x172, x173, x174, x175, x176, x177, x178, x179, x180, x181, x182, x183, x184, h191)).bind fun (x226, x227, x228, x229, x230, x231, x232, x233, x234, x235, x236, x237, x238, h239) =>
 (slen x238).bind fun n240 =>
 (L92_3 N N (n240, 0, x226, x227, x228, x229, x230, x231, x232, x233, x234, x235, x236, x237, x238, h239)).bind fun (x273, x274, x275, x276, x277, x278, x279, x280, x281, x282, x283, x284, x285, h286) =>
 (F202 100 (x283, 0, 4611686018426339327, [])).bind fun (x287, _) =>
 (if x287 = true then (
 (F202 100 (x284, 1, 4611686018427387903, [])).bind fun (x290, _) =>
 some (x290, h286))
 else (
 some (false, h286))).bind fun (b288, h289) =>
 some (b288, h289)))))
abbrev ks92 : List SK := [.agg [.ref, .ref, .ref, .ref, .ref, .ref, .ref, .ref, .ref, .ref, (.int .i64), (.int .i64), .ref]]
abbrev rs92 : List SK := [.one .bool]
def e92 (N : Nat) : Env := ⟨Tryz.prog, 184, inTab [1, 10, 15], inTab [], natTab [(1, 1), (10, 10), (15, 15), (16, 1), (19, 1), (29, 1), (36, 1), (43, 1), (50, 1), (60, 1), (65, 1), (72, 1), (81, 1), (86, 1), (95, 1), (97, 1), (102, 1), (112, 1), (125, 1), (130, 1), (136, 1), (141, 1), (157, 1), (164, 15), (170, 15), (176, 1), (180, 1)], inTab [], calTab [(99, .ro (mkFun ks99 rs99 (F99 N))), (202, .pure (mkP ks202 rs202 (F202 100))), (203, .full (mkFun ks203 rs203 (F203 N))), (204, .ro (mkFun ks204 rs204 (F204 N)))], altTab [], loopTab [(5, ⟨⟨.normal, [1, 56, 57], [.lp 1 0, .one (.int .i64), .one (.int .i64)], [1], [.cells [.ref, .ref, .ref, .ref, .ref, .ref, .ref, .ref, .ref, .ref, (.int .i64), (.int .i64), .ref]]⟩, [⟨(.exit 0), [1], [.lp 1 0], [1], [.cells [.ref, .ref, .ref, .ref, .ref, .ref, .ref, .ref, .ref, .ref, (.int .i64), (.int .i64), .ref]]⟩], L92_0 N⟩), (13, ⟨⟨.normal, [1, 56, 57, 116, 117], [.lp 1 0, .one (.int .i64), .one (.int .i64), .blk, .one (.int .i64)], [1], [.cells [.ref, .ref, .ref, .ref, .ref, .ref, .ref, .ref, .ref, .ref, (.int .i64), (.int .i64), .ref]]⟩, [⟨(.exit 2), [1, 56, 57], [.lp 1 0, .one (.int .i64), .one (.int .i64)], [1], [.cells [.ref, .ref, .ref, .ref, .ref, .ref, .ref, .ref, .ref, .ref, (.int .i64), (.int .i64), .ref]]⟩], L92_1 N⟩), (22, ⟨⟨.normal, [1, 143, 144], [.lp 1 0, .one (.int .i64), .one (.int .i64)], [1], [.cells [.ref, .ref, .ref, .ref, .ref, .ref, .ref, .ref, .ref, .ref, (.int .i64), (.int .i64), .ref]]⟩, [⟨(.exit 4), [1], [.lp 1 0], [1], [.cells [.ref, .ref, .ref, .ref, .ref, .ref, .ref, .ref, .ref, .ref, (.int .i64), (.int .i64), .ref]]⟩], L92_2 N⟩), (29, ⟨⟨.normal, [1, 159, 160], [.lp 1 0, .one (.int .i64), .one (.int .i64)], [1], [.cells [.ref, .ref, .ref, .ref, .ref, .ref, .ref, .ref, .ref, .ref, (.int .i64), (.int .i64), .ref]]⟩, [⟨(.exit 6), [1], [.lp 1 0], [1], [.cells [.ref, .ref, .ref, .ref, .ref, .ref, .ref, .ref, .ref, .ref, (.int .i64), (.int .i64), .ref]]⟩], L92_3 N⟩)], natTab [], inTab [3, 8, 11, 16, 20, 23, 24, 25, 26, 27, 30, 31, 32, 33]⟩
theorem l92_0 (N : Nat) : ∀ A, (e92 N).lp (lid (loopAt Tryz.f92 0)) = some A → LoopOk (e92 N) N (loopAt Tryz.f92 0) A :=
  loopOk_of (A := ⟨⟨.normal, [1, 56, 57], [.lp 1 0, .one (.int .i64), .one (.int .i64)], [1], [.cells [.ref, .ref, .ref, .ref, .ref, .ref, .ref, .ref, .ref, .ref, (.int .i64), (.int .i64), .ref]]⟩, [⟨(.exit 0), [1], [.lp 1 0], [1], [.cells [.ref, .ref, .ref, .ref, .ref, .ref, .ref, .ref, .ref, .ref, (.int .i64), (.int .i64), .ref]]⟩], L92_0 N⟩) (by kernel_rfl) (fun _ => rfl) (fun _ _ => by kernel_rfl)
theorem l92_1 (N : Nat) : ∀ A, (e92 N).lp (lid (loopAt Tryz.f92 1)) = some A → LoopOk (e92 N) N (loopAt Tryz.f92 1) A :=
  loopOk_of (A := ⟨⟨.normal, [1, 56, 57, 116, 117], [.lp 1 0, .one (.int .i64), .one (.int .i64), .blk, .one (.int .i64)], [1], [.cells [.ref, .ref, .ref, .ref, .ref, .ref, .ref, .ref, .ref, .ref, (.int .i64), (.int .i64), .ref]]⟩, [⟨(.exit 2), [1, 56, 57], [.lp 1 0, .one (.int .i64), .one (.int .i64)], [1], [.cells [.ref, .ref, .ref, .ref, .ref, .ref, .ref, .ref, .ref, .ref, (.int .i64), (.int .i64), .ref]]⟩], L92_1 N⟩) (by kernel_rfl) (fun _ => rfl) (fun _ _ => by kernel_rfl)
theorem l92_2 (N : Nat) : ∀ A, (e92 N).lp (lid (loopAt Tryz.f92 2)) = some A → LoopOk (e92 N) N (loopAt Tryz.f92 2) A :=
  loopOk_of (A := ⟨⟨.normal, [1, 143, 144], [.lp 1 0, .one (.int .i64), .one (.int .i64)], [1], [.cells [.ref, .ref, .ref, .ref, .ref, .ref, .ref, .ref, .ref, .ref, (.int .i64), (.int .i64), .ref]]⟩, [⟨(.exit 4), [1], [.lp 1 0], [1], [.cells [.ref, .ref, .ref, .ref, .ref, .ref, .ref, .ref, .ref, .ref, (.int .i64), (.int .i64), .ref]]⟩], L92_2 N⟩) (by kernel_rfl) (fun _ => rfl) (fun _ _ => by kernel_rfl)
theorem l92_3 (N : Nat) : ∀ A, (e92 N).lp (lid (loopAt Tryz.f92 3)) = some A → LoopOk (e92 N) N (loopAt Tryz.f92 3) A :=
  loopOk_of (A := ⟨⟨.normal, [1, 159, 160], [.lp 1 0, .one (.int .i64), .one (.int .i64)], [1], [.cells [.ref, .ref, .ref, .ref, .ref, .ref, .ref, .ref, .ref, .ref, (.int .i64), (.int .i64), .ref]]⟩, [⟨(.exit 6), [1], [.lp 1 0], [1], [.cells [.ref, .ref, .ref, .ref, .ref, .ref, .ref, .ref, .ref, .ref, (.int .i64), (.int .i64), .ref]]⟩], L92_3 N⟩) (by kernel_rfl) (fun _ => rfl) (fun _ _ => by kernel_rfl)
theorem fine92 (N : Nat) : Fine (e92 N) N 92 Tryz.f92 ks92 rs92 (F92 N) :=
  ⟨Tryz.func92, by kernel_rfl, by kernel_rfl, by kernel_rfl, loops_of ⟨l92_0 N, ⟨l92_1 N, ⟨l92_2 N, ⟨l92_3 N, trivial⟩⟩⟩⟩, by kernel_rfl, by kernel_rfl, fun _ => by kernel_rfl⟩
theorem good92 (N : Nat) : Go.L.Good (e92 N) := good_of ⟨gd99 N, ⟨gd202, ⟨gd203 N, ⟨gd204 N, trivial⟩⟩⟩⟩
theorem gd92 (N : Nat) : CalOk Tryz.prog 92 (.full (mkFun ks92 rs92 (F92 N))) := mkFun_good (fine92 N) (good92 N)

/-! ### 100: tie.New -/
def F100 (N : Nat) : H → Option (V × H)
 | h =>
 (some (h ++ [O.map 0 [] []]) : Option H).bind fun h1 =>
 (some (h1 ++ [O.map 0 [] []]) : Option H).bind fun h2 =>
 (ck1 (.map (h).length)).bind fun _ =>
 (ck1 (.map (h1).length)).bind fun _ =>
 (some (h2 ++ [O.cells 0 [(.map (h).length), (.map (h1).length)]]) : Option H).bind fun h3 =>
 some ((.ptr (h2).length 0 0), h3)
abbrev ks100 : List SK := []
abbrev rs100 : List SK := [.one .ref]
def e100 (N : Nat) : Env := ⟨Tryz.prog, 5, inTab [], inTab [], natTab [], inTab [], calTab [], altTab [], loopTab [], natTab [], inTab []⟩
theorem fine100 (N : Nat) : Fine (e100 N) N 100 Tryz.f100 ks100 rs100 (F100 N) :=
  ⟨Tryz.func100, by kernel_rfl, by kernel_rfl, by kernel_rfl, loops_of trivial, by kernel_rfl, by kernel_rfl, fun _ => by kernel_rfl⟩
theorem good100 (N : Nat) : Go.L.Good (e100 N) := good_of trivial
theorem gdg100 (N : Nat) : CalOk Tryz.prog 100 (.gro (mkFun ks100 rs100 (F100 N))) := mkFun_groC (fine100 N) (good100 N) (by kernel_rfl)

/-! ### 101: table.New -/
def F101 (N : Nat) : Int × H → Option (V × Int × H)
 | (a0, h) =>
 (if (decide (a0 < 1)) = true then (
 some (true, h))
 else (
 some ((decide (a0 > 256)), h))).bind fun (b1, h2) =>
 (if b1 = true then (
 none)
 else (
 (if 0 ≤ a0 then (if a0 ≤ a0 then (if a0 * ((3 : Nat) : Int) ≤ ((mostCells : Nat) : Int) then (
 (some (h2 ++ [O.cells 0 (repeatC (Int.toNat a0) [(.int .i64 0), (.bool false), (.str (ByteArray.mk #[]))])]) : Option H).bind fun h3 =>
 (some (h3 ++ [O.map 0 [] []]) : Option H).bind fun h4 =>
 (ck1 (.sl (h2).length 0 0 (Int.toNat a0) 3 (some (Int.toNat a0)))).bind fun _ =>
 (ck1 (.map (h3).length)).bind fun _ =>
 (some (h4 ++ [O.cells 0 [(.sl (h2).length 0 0 (Int.toNat a0) 3 (some (Int.toNat a0))), (.map (h3).length)]]) : Option H).bind fun h5 =>
 some ((.ptr (h4).length 0 0), 0, h5)) else none) else none) else none)))
abbrev ks101 : List SK := [.one (.int .i64)]
abbrev rs101 : List SK := [.one .ref, .one (.int .i64)]
def e101 (N : Nat) : Env := ⟨Tryz.prog, 15, inTab [], inTab [], natTab [], inTab [], calTab [], altTab [], loopTab [], natTab [], inTab [2]⟩
theorem fine101 (N : Nat) : Fine (e101 N) N 101 Tryz.f101 ks101 rs101 (F101 N) :=
  ⟨Tryz.func101, by kernel_rfl, by kernel_rfl, by kernel_rfl, loops_of trivial, by kernel_rfl, by kernel_rfl, fun _ => by kernel_rfl⟩
theorem good101 (N : Nat) : Go.L.Good (e101 N) := good_of trivial
theorem gdg101 (N : Nat) : CalOk Tryz.prog 101 (.gro (mkFun ks101 rs101 (F101 N))) := mkFun_groC (fine101 N) (good101 N) (by kernel_rfl)

/-! ### 102: homes.New -/
def F102 (N : Nat) : Int × H → Option (V × Int × H)
 | (a0, h) =>
 (if (decide (a0 < 1)) = true then (
 some (true, h))
 else (
 some ((decide (a0 > 16)), h))).bind fun (b1, h2) =>
 (if b1 = true then (
 none)
 else (
 (some (h2 ++ [O.cells 0 ((.int .i64 a0) :: List.replicate 48 (.int .i64 0))]) : Option H).bind fun h3 =>
 some ((.ptr (h2).length 0 0), 0, h3)))
abbrev ks102 : List SK := [.one (.int .i64)]
abbrev rs102 : List SK := [.one .ref, .one (.int .i64)]
def e102 (N : Nat) : Env := ⟨Tryz.prog, 13, inTab [], inTab [], natTab [], inTab [], calTab [], altTab [], loopTab [], natTab [], inTab [2]⟩
theorem fine102 (N : Nat) : Fine (e102 N) N 102 Tryz.f102 ks102 rs102 (F102 N) :=
  ⟨Tryz.func102, by kernel_rfl, by kernel_rfl, by kernel_rfl, loops_of trivial, by kernel_rfl, by kernel_rfl, fun _ => by kernel_rfl⟩
theorem good102 (N : Nat) : Go.L.Good (e102 N) := good_of trivial
theorem gdg102 (N : Nat) : CalOk Tryz.prog 102 (.gro (mkFun ks102 rs102 (F102 N))) := mkFun_groC (fine102 N) (good102 N) (by kernel_rfl)

/-! ### 103: log.New -/
def F103 (N : Nat) : Int × H → Option (V × Int × H)
 | (a0, h) =>
 (if (decide (a0 < 1)) = true then (
 some (true, h))
 else (
 some ((decide (a0 > 4096)), h))).bind fun (b1, h2) =>
 (if b1 = true then (
 none)
 else (
 (some (h2 ++ [O.cells 0 ((.int .i64 a0) :: .nils :: List.replicate 34 (.int .i64 0))]) : Option H).bind fun h3 =>
 some ((.ptr (h2).length 0 0), 0, h3)))
abbrev ks103 : List SK := [.one (.int .i64)]
abbrev rs103 : List SK := [.one .ref, .one (.int .i64)]
def e103 (N : Nat) : Env := ⟨Tryz.prog, 13, inTab [], inTab [], natTab [], inTab [], calTab [], altTab [], loopTab [], natTab [], inTab [2]⟩
theorem fine103 (N : Nat) : Fine (e103 N) N 103 Tryz.f103 ks103 rs103 (F103 N) :=
  ⟨Tryz.func103, by kernel_rfl, by kernel_rfl, by kernel_rfl, loops_of trivial, by kernel_rfl, by kernel_rfl, fun _ => by kernel_rfl⟩
theorem good103 (N : Nat) : Go.L.Good (e103 N) := good_of trivial
theorem gdg103 (N : Nat) : CalOk Tryz.prog 103 (.gro (mkFun ks103 rs103 (F103 N))) := mkFun_groC (fine103 N) (good103 N) (by kernel_rfl)

/-! ### 104: core.New -/
def F104 (N : Nat) : V × H → Option (V × Int × H)
 | (a0, h) =>
 (F203 N (a0, 0, [.nils, .nils, .nils], h)).bind fun (x1, x2, h3) =>
 some (x1, x2, h3)
abbrev ks104 : List SK := [.one .ref]
abbrev rs104 : List SK := [.one .ref, .one (.int .i64)]
def e104 (N : Nat) : Env := ⟨Tryz.prog, 9, inTab [], inTab [], natTab [], inTab [], calTab [(203, .full (mkFun ks203 rs203 (F203 N)))], altTab [], loopTab [], natTab [], inTab []⟩
theorem fine104 (N : Nat) : Fine (e104 N) N 104 Tryz.f104 ks104 rs104 (F104 N) :=
  ⟨Tryz.func104, by kernel_rfl, by kernel_rfl, by kernel_rfl, loops_of trivial, by kernel_rfl, by kernel_rfl, fun _ => by kernel_rfl⟩
theorem good104 (N : Nat) : Go.L.Good (e104 N) := good_of ⟨gd203 N, trivial⟩
theorem gd104 (N : Nat) : CalOk Tryz.prog 104 (.full (mkFun ks104 rs104 (F104 N))) := mkFun_good (fine104 N) (good104 N)

/-! ### 105: timer.New -/
def F105 (N : Nat) : Int × H → Option (V × Int × H)
 | (a0, h) =>
 (if (decide (a0 < 0)) = true then (
 some (true, h))
 else (
 some ((decide (a0 > 4611686018426339327)), h))).bind fun (b1, h2) =>
 (if b1 = true then (
 none)
 else (
 (some (h2 ++ [O.cells 0 ((.bool true) :: (.int .i64 a0) :: (.int .i64 0) :: List.replicate 257 .nils)]) : Option H).bind fun h3 =>
 some ((.ptr (h2).length 0 0), 0, h3)))
abbrev ks105 : List SK := [.one (.int .i64)]
abbrev rs105 : List SK := [.one .ref, .one (.int .i64)]
def e105 (N : Nat) : Env := ⟨Tryz.prog, 13, inTab [], inTab [], natTab [], inTab [], calTab [], altTab [], loopTab [], natTab [], inTab [2]⟩
theorem fine105 (N : Nat) : Fine (e105 N) N 105 Tryz.f105 ks105 rs105 (F105 N) :=
  ⟨Tryz.func105, by kernel_rfl, by kernel_rfl, by kernel_rfl, loops_of trivial, by kernel_rfl, by kernel_rfl, fun _ => by kernel_rfl⟩
theorem good105 (N : Nat) : Go.L.Good (e105 N) := good_of trivial
theorem gdg105 (N : Nat) : CalOk Tryz.prog 105 (.gro (mkFun ks105 rs105 (F105 N))) := mkFun_groC (fine105 N) (good105 N) (by kernel_rfl)

/-! ### 34: node.New -/
def L34_0 (N : Nat) : Nat → V × V × Int × Int × H → Option (V × H)
 | 0, _ => none
 | n + 1, (x37, x38, x39, x40, h41) =>
 (if (decide (x40 < x39)) = true then (
 (F104 N (x37, h41)).bind fun (x42, x43, h44) =>
 (F105 N (0, h44)).bind fun (x45, x46, h47) =>
 (nck x38).bind fun _ =>
 ((rd h47 (padd x38 5) 0)).bind fun x48 =>
 (ck1 x42).bind fun _ =>
 (ck1 x45).bind fun _ =>
 (happ h47 x48 4 1 [x42, x45, (.int .i64 0), (.int .i64 0)]).bind fun (v49, h50) =>
 (nck x38).bind fun _ =>
 (ck1 v49).bind fun _ =>
 (wr h50 (padd x38 5) [v49]).bind fun h51 =>
 L34_0 N n (x37, x38, x39, (IntKind.i64.wrap (x40 + 1)), h51))
 else (
 some (x38, h41)))
def F34 (N : Nat) : Int × V × H → Option (V × Int × H)
 | (a0, a1, h) =>
 (if (decide (a0 < 1)) = true then (
 some (true, h))
 else (
 some ((decide (a0 > 16)), h))).bind fun (b1, h2) =>
 (if b1 = true then (
 none)
 else (
 (F99 N (a1, h2)).bind fun (x3, _) =>
 (if (x3 != 0) = true then (
 none)
 else (
 Option.bind (α := (V × H)) (locF true ks47 rs47 (F47 N) ((a1, h2) : V × H)) fun (x4, h5) =>
 (F100 N h5).bind fun (x6, h7) =>
 (some (h7 ++ [O.map 0 [] []]) : Option H).bind fun h8 =>
 (ck1 x4).bind fun _ =>
 (ck1 x6).bind fun _ =>
 (ck1 (.map (h7).length)).bind fun _ =>
 (some (h8 ++ [O.cells 0 [x4, .nils, .nilp, .nilp, x6, .nils, (.map (h7).length), (.int .i64 0), (.int .i64 1), .nils, .nilp, .nils, (.int .i64 0), .nils]]) : Option H).bind fun h9 =>
 (F101 N (256, h9)).bind fun (x10, x11, h12) =>
 (ck1 x10).bind fun _ =>
 (wr h12 (.ptr (h8).length 0 2) [x10]).bind fun h13 =>
 (F102 N (a0, h13)).bind fun (x14, x15, h16) =>
 (ck1 x14).bind fun _ =>
 (wr h16 (.ptr (h8).length 0 3) [x14]).bind fun h17 =>
 (F103 N (4096, h17)).bind fun (x18, x19, h20) =>
 (ck1 x18).bind fun _ =>
 (wr h20 (.ptr (h8).length 0 10) [x18]).bind fun h21 =>
 (L34_0 N N (a1, (.ptr (h8).length 0 0), a0, 0, h21)).bind fun (x52, h53) =>
 some (x52, 0, h53)))))
abbrev ks34 : List SK := [.one (.int .i64), .one .ref]
abbrev rs34 : List SK := [.one .ref, .one (.int .i64)]
def e34 (N : Nat) : Env := ⟨Tryz.prog, 77, inTab [71], inTab [], natTab [], inTab [], calTab [(99, .ro (mkFun ks99 rs99 (F99 N))), (47, .gro (mkFun ks47 rs47 (locF true ks47 rs47 (F47 N)))), (100, .gro (mkFun ks100 rs100 (F100 N))), (101, .gro (mkFun ks101 rs101 (F101 N))), (102, .gro (mkFun ks102 rs102 (F102 N))), (103, .gro (mkFun ks103 rs103 (F103 N))), (104, .full (mkFun ks104 rs104 (F104 N))), (105, .gro (mkFun ks105 rs105 (F105 N)))], altTab [], loopTab [(11, ⟨⟨.normal, [1, 7, 51, 52], [.one .ref, .one .ref, .one (.int .i64), .one (.int .i64)], [], []⟩, [⟨(.exit 0), [7], [.one .ref], [], []⟩], L34_0 N⟩)], natTab [], inTab [2, 5]⟩
theorem l34_0 (N : Nat) : ∀ A, (e34 N).lp (lid (loopAt Tryz.f34 0)) = some A → LoopOk (e34 N) N (loopAt Tryz.f34 0) A :=
  loopOk_of (A := ⟨⟨.normal, [1, 7, 51, 52], [.one .ref, .one .ref, .one (.int .i64), .one (.int .i64)], [], []⟩, [⟨(.exit 0), [7], [.one .ref], [], []⟩], L34_0 N⟩) (by kernel_rfl) (fun _ => rfl) (fun _ _ => by kernel_rfl)
theorem fine34 (N : Nat) : Fine (e34 N) N 34 Tryz.f34 ks34 rs34 (F34 N) :=
  ⟨Tryz.func34, by kernel_rfl, by kernel_rfl, by kernel_rfl, loops_of ⟨l34_0 N, trivial⟩, by kernel_rfl, by kernel_rfl, fun _ => by kernel_rfl⟩
theorem good34 (N : Nat) : Go.L.Good (e34 N) := good_of ⟨gd99 N, ⟨gl47 N, ⟨gdg100 N, ⟨gdg101 N, ⟨gdg102 N, ⟨gdg103 N, ⟨gd104 N, ⟨gdg105 N, trivial⟩⟩⟩⟩⟩⟩⟩⟩
theorem gd34 (N : Nat) : CalOk Tryz.prog 34 (.full (mkFun ks34 rs34 (F34 N))) := mkFun_good (fine34 N) (good34 N)
theorem gl34 (N : Nat) : CalOk Tryz.prog 34 (.full (mkFun ks34 rs34 (locF false ks34 rs34 (F34 N)))) := loc_full (gd34 N)

/-! ### 93: table.Load -/
def L93_0 (N : Nat) : Nat → V × V × V × V × Int × Int × H → Option (V × V × V × H)
 | 0, _ => none
 | n + 1, (x24, x25, x26, x27, x28, x29, h30) =>
 (if (decide (x29 < x28)) = true then (
 (sidx x27 x29 1).bind fun q31 =>
 (L.asInt .i64 (rd h30 q31 0)).bind fun x32 =>
 (if (decide (x32 < 0)) = true then (
 some (true, h30))
 else (
 some ((decide (x32 > 4611686018427387903)), h30))).bind fun (b33, h34) =>
 (if b33 = true then (
 none)
 else (
 (nck x26).bind fun _ =>
 ((rd h34 (padd x26 0) 0)).bind fun x35 =>
 (sidx x35 x29 3).bind fun q36 =>
 (wr h34 (padd q36 0) [(.int .i64 x32)]).bind fun h37 =>
 L93_0 N n (x24, x25, x26, x27, x28, (IntKind.i64.wrap (x29 + 1)), h37))))
 else (
 some (x24, x25, x26, h30)))
def L93_1 (N : Nat) : Nat → V × V × Int × Int × H → Option (V × V × H)
 | 0, _ => none
 | n + 1, (x48, x49, x50, x51, h52) =>
 (if (decide (x51 < x50)) = true then (
 none)
 else (
 some (x48, x49, h52)))
def L93_2 (N : Nat) : Nat → V × Int × Int × H → Option (V × H)
 | 0, _ => none
 | n + 1, (x61, x62, x63, h64) =>
 (if (decide (x63 < x62)) = true then (
 none)
 else (
 some (x61, h64)))
def F93 (N : Nat) : V × V × V × H → Option (V × Int × H)
 | (a0, a1, a2, h) =>
 (slen a0).bind fun n1 =>
 (F101 N (n1, h)).bind fun (x2, x3, h4) =>
 (if (x3 != 0) = true then (
 some (true, h4))
 else (
 (slen a2).bind fun n7 =>
 (slen a1).bind fun n8 =>
 some ((n7 != n8), h4))).bind fun (b5, h6) =>
 (if b5 = true then (
 none)
 else (
 (slen a0).bind fun n9 =>
 (L93_0 N N (a1, a2, x2, a0, n9, 0, h6)).bind fun (x38, x39, x40, h41) =>
 (slen x38).bind fun n42 =>
 (L93_1 N N (x39, x40, n42, 0, h41)).bind fun (x53, x54, h55) =>
 (slen x53).bind fun n56 =>
 (L93_2 N N (x54, n56, 0, h55)).bind fun (x65, h66) =>
 some (x65, 0, h66)))
abbrev ks93 : List SK := [.one .ref, .one .ref, .one .ref]
abbrev rs93 : List SK := [.one .ref, .one (.int .i64)]
def e93 (N : Nat) : Env := ⟨Tryz.prog, 130, inTab [13], inTab [], natTab [(13, 13), (60, 13), (64, 13), (80, 13), (86, 13), (91, 13), (94, 13), (104, 13)], inTab [], calTab [(101, .gro (mkFun ks101 rs101 (F101 N)))], altTab [], loopTab [(5, ⟨⟨.normal, [1, 2, 8, 31, 32, 33], [.one .ref, .one .ref, .one .ref, .one .ref, .one (.int .i64), .one (.int .i64)], [], []⟩, [⟨(.exit 0), [1, 2, 8], [.one .ref, .one .ref, .one .ref], [], []⟩], L93_0 N⟩), (12, ⟨⟨.normal, [2, 8, 54, 55], [.one .ref, .one .ref, .one (.int .i64), .one (.int .i64)], [], []⟩, [⟨(.exit 2), [2, 8], [.one .ref, .one .ref], [], []⟩], L93_1 N⟩), (19, ⟨⟨.normal, [8, 110, 111], [.one .ref, .one (.int .i64), .one (.int .i64)], [], []⟩, [⟨(.exit 4), [8], [.one .ref], [], []⟩], L93_2 N⟩)], natTab [], inTab [3, 8, 13, 14, 15, 16, 17, 20, 21, 22, 23]⟩
theorem l93_0 (N : Nat) : ∀ A, (e93 N).lp (lid (loopAt Tryz.f93 0)) = some A → LoopOk (e93 N) N (loopAt Tryz.f93 0) A :=
  loopOk_of (A := ⟨⟨.normal, [1, 2, 8, 31, 32, 33], [.one .ref, .one .ref, .one .ref, .one .ref, .one (.int .i64), .one (.int .i64)], [], []⟩, [⟨(.exit 0), [1, 2, 8], [.one .ref, .one .ref, .one .ref], [], []⟩], L93_0 N⟩) (by kernel_rfl) (fun _ => rfl) (fun _ _ => by kernel_rfl)
theorem l93_1 (N : Nat) : ∀ A, (e93 N).lp (lid (loopAt Tryz.f93 1)) = some A → LoopOk (e93 N) N (loopAt Tryz.f93 1) A :=
  loopOk_of (A := ⟨⟨.normal, [2, 8, 54, 55], [.one .ref, .one .ref, .one (.int .i64), .one (.int .i64)], [], []⟩, [⟨(.exit 2), [2, 8], [.one .ref, .one .ref], [], []⟩], L93_1 N⟩) (by kernel_rfl) (fun _ => rfl) (fun _ _ => by kernel_rfl)
theorem l93_2 (N : Nat) : ∀ A, (e93 N).lp (lid (loopAt Tryz.f93 2)) = some A → LoopOk (e93 N) N (loopAt Tryz.f93 2) A :=
  loopOk_of (A := ⟨⟨.normal, [8, 110, 111], [.one .ref, .one (.int .i64), .one (.int .i64)], [], []⟩, [⟨(.exit 4), [8], [.one .ref], [], []⟩], L93_2 N⟩) (by kernel_rfl) (fun _ => rfl) (fun _ _ => by kernel_rfl)
theorem fine93 (N : Nat) : Fine (e93 N) N 93 Tryz.f93 ks93 rs93 (F93 N) :=
  ⟨Tryz.func93, by kernel_rfl, by kernel_rfl, by kernel_rfl, loops_of ⟨l93_0 N, ⟨l93_1 N, ⟨l93_2 N, trivial⟩⟩⟩, by kernel_rfl, by kernel_rfl, fun _ => by kernel_rfl⟩
theorem good93 (N : Nat) : Go.L.Good (e93 N) := good_of ⟨gdg101 N, trivial⟩
theorem gd93 (N : Nat) : CalOk Tryz.prog 93 (.full (mkFun ks93 rs93 (F93 N))) := mkFun_good (fine93 N) (good93 N)


end
end Go.Proofs.YtgipaccfnlklcaaGreat
