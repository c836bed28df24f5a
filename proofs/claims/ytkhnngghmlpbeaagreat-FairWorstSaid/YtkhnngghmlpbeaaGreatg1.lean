/- The functions that the law reaches, as plain ones (printed by gen.py). -/
import Derived.Test.YtkhnngghmlpbeaaGreatLD
import Derived.Test.YtkhnngghmlpbeaaGreatChecked
import Derived.KernelRfl
set_option linter.unusedVariables false
set_option maxRecDepth 100000
namespace Go.Proofs.YtkhnngghmlpbeaaGreat
noncomputable section
open Go.L

/-! ### 15: fair.Bound -/
def F15 (N : Nat) : Int × Int × H → Option (Int × H)
 | (a0, a1, h) =>
 (if (decide (a0 < 1)) = true then (
 some (true, h))
 else (
 some ((decide (a0 > 64)), h))).bind fun (b1, h2) =>
 (if b1 = true then (
 some (true, h2))
 else (
 some ((decide (a1 < 0)), h2))).bind fun (b3, h4) =>
 (if b3 = true then (
 some (true, h4))
 else (
 some ((decide (a1 > 64)), h4))).bind fun (b5, h6) =>
 (if b5 = true then (
 some (0, h6))
 else (
 some ((IntKind.i64.wrap ((IntKind.i64.wrap (a1 + 2)) * a0)), h6)))
abbrev ks15 : List SK := [.one (.int .i64), .one (.int .i64)]
abbrev rs15 : List SK := [.one (.int .i64)]
def e15 (N : Nat) : Env := ⟨Tryz.prog, 23, inTab [], inTab [], natTab [], inTab [], calTab [], altTab [], loopTab [], natTab [], inTab []⟩
theorem fine15 (N : Nat) : Fine (e15 N) N 15 Tryz.f15 ks15 rs15 (F15 N) :=
  ⟨Tryz.func15, by kernel_rfl, by kernel_rfl, by kernel_rfl, loops_of trivial, by kernel_rfl, by kernel_rfl, fun _ => by kernel_rfl⟩
theorem good15 (N : Nat) : Go.L.Good (e15 N) := good_of trivial
theorem gd15 : CalOk Tryz.prog 15 (.pure (mkP ks15 rs15 (F15 100))) := mkP_good (fine15 100) (good15 100) (by kernel_rfl) (by kernel_rfl)

/-! ### 13: fair.Worst -/
def L13_0 (N : Nat) : Nat → Int × V × Int × Int × H → Option ((Int × V × H) ⊕ (Int × Int × H))
 | 0, _ => none
 | n + 1, (x16, x17, x18, x19, h20) =>
 (if (decide (x19 < x18)) = true then (
 (sidx x17 x19 7).bind fun q21 =>
 (L.asInt .i64 (rd h20 (padd q21 3) 0)).bind fun x22 =>
 (if (decide (x22 < 0)) = true then (
 some (true, h20))
 else (
 (sidx x17 x19 7).bind fun q25 =>
 (L.asInt .i64 (rd h20 (padd q25 3) 0)).bind fun x26 =>
 some ((decide (x26 > 4611686018427387903)), h20))).bind fun (b23, h24) =>
 (if b23 = true then (
 some (.inr (0, 1, h24)))
 else (
 L13_0 N n (x16, x17, x18, (IntKind.i64.wrap (x19 + 1)), h24))))
 else (
 some (.inl (x16, x17, h20))))
def L13_1 (N : Nat) : Nat → Int × V × Int × Int × Int × H → Option (Int × H)
 | 0, _ => none
 | n + 1, (x54, x55, x56, x57, x58, h59) =>
 (if (decide (x58 < x57)) = true then (
 (sidx x55 x58 7).bind fun q60 =>
 (L.asInt .i64 (rd h59 (padd q60 4) 0)).bind fun x61 =>
 (F15 100 (x54, x61, [])).bind fun (x62, _) =>
 (sidx x55 x58 7).bind fun q63 =>
 (L.asInt .i64 (rd h59 (padd q63 3) 0)).bind fun x64 =>
 (sidx x55 x56 7).bind fun q65 =>
 (L.asInt .i64 (rd h59 (padd q65 4) 0)).bind fun x66 =>
 (F15 100 (x54, x66, [])).bind fun (x67, _) =>
 (sidx x55 x56 7).bind fun q68 =>
 (L.asInt .i64 (rd h59 (padd q68 3) 0)).bind fun x69 =>
 ((if (decide ((IntKind.i64.wrap (x62 - x64)) < (IntKind.i64.wrap (x67 - x69)))) = true then (
 some (x54, x55, x58, x57, x58, h59))
 else (
 some (x54, x55, x56, x57, x58, h59))) : Option (Int × V × Int × Int × Int × H)).bind fun (x70, x71, x72, x73, x74, h75) =>
 L13_1 N n (x70, x71, x72, x73, (IntKind.i64.wrap (x74 + 1)), h75))
 else (
 some (x56, h59)))
def F13 (N : Nat) : Int × V × H → Option (Int × Int × H)
 | (a0, a1, h) =>
 (if (decide (a0 < 1)) = true then (
 some (true, h))
 else (
 some ((decide (a0 > 64)), h))).bind fun (b1, h2) =>
 (if b1 = true then (
 some (0, 1, h2))
 else (
 (slen a1).bind fun n3 =>
 (if (n3 == 0) = true then (
 some (0, 3, h2))
 else (
 (slen a1).bind fun n4 =>
 (L13_0 N N (a0, a1, n4, 0, h2)).bind fun o27 => match o27 with
 | .inl (x28, x29, h30) => (
 (slen x29).bind fun n31 =>
 (L13_1 N N (x28, x29, 0, n31, 0, h30)).bind fun (x76, h77) =>
 some (x76, 0, h77))
 | .inr (x78, x79, h80) => (
 some (x78, x79, h80))))))
abbrev ks13 : List SK := [.one (.int .i64), .one .ref]
abbrev rs13 : List SK := [.one (.int .i64), .one (.int .i64)]
def e13 (N : Nat) : Env := ⟨Tryz.prog, 73, inTab [], inTab [], natTab [], inTab [], calTab [(15, .pure (mkP ks15 rs15 (F15 100)))], altTab [(1048645, [⟨.normal, [0, 1, 7, 39, 40], [.one (.int .i64), .one .ref, .one (.int .i64), .one (.int .i64), .one (.int .i64)], [], []⟩])], loopTab [(6, ⟨⟨.normal, [0, 1, 19, 20], [.one (.int .i64), .one .ref, .one (.int .i64), .one (.int .i64)], [], []⟩, [⟨(.exit 0), [0, 1], [.one (.int .i64), .one .ref], [], []⟩, ⟨.ret, [4, 5], [.one (.int .i64), .one (.int .i64)], [], []⟩], L13_0 N⟩), (13, ⟨⟨.normal, [0, 1, 7, 39, 40], [.one (.int .i64), .one .ref, .one (.int .i64), .one (.int .i64), .one (.int .i64)], [], []⟩, [⟨(.exit 2), [7], [.one (.int .i64)], [], []⟩], L13_1 N⟩)], natTab [], inTab []⟩
theorem l13_0 (N : Nat) : ∀ A, (e13 N).lp (lid (loopAt Tryz.f13 0)) = some A → LoopOk (e13 N) N (loopAt Tryz.f13 0) A :=
  loopOk_of (A := ⟨⟨.normal, [0, 1, 19, 20], [.one (.int .i64), .one .ref, .one (.int .i64), .one (.int .i64)], [], []⟩, [⟨(.exit 0), [0, 1], [.one (.int .i64), .one .ref], [], []⟩, ⟨.ret, [4, 5], [.one (.int .i64), .one (.int .i64)], [], []⟩], L13_0 N⟩) (by kernel_rfl) (fun _ => rfl) (fun _ _ => by kernel_rfl)
theorem l13_1 (N : Nat) : ∀ A, (e13 N).lp (lid (loopAt Tryz.f13 1)) = some A → LoopOk (e13 N) N (loopAt Tryz.f13 1) A :=
  loopOk_of (A := ⟨⟨.normal, [0, 1, 7, 39, 40], [.one (.int .i64), .one .ref, .one (.int .i64), .one (.int .i64), .one (.int .i64)], [], []⟩, [⟨(.exit 2), [7], [.one (.int .i64)], [], []⟩], L13_1 N⟩) (by kernel_rfl) (fun _ => rfl) (fun _ _ => by kernel_rfl)
theorem fine13 (N : Nat) : Fine (e13 N) N 13 Tryz.f13 ks13 rs13 (F13 N) :=
  ⟨Tryz.func13, by kernel_rfl, by kernel_rfl, by kernel_rfl, loops_of ⟨l13_0 N, ⟨l13_1 N, trivial⟩⟩, by kernel_rfl, by kernel_rfl, fun _ => by kernel_rfl⟩
theorem good13 (N : Nat) : Go.L.Good (e13 N) := good_of ⟨gd15, trivial⟩
theorem gd13 (N : Nat) : CalOk Tryz.prog 13 (.ro (mkFun ks13 rs13 (F13 N))) := mkFun_ro (fine13 N) (good13 N) (by kernel_rfl)

/-! ### 16: carouselref23.Bound -/
def F16 (N : Nat) : Int × Int × H → Option (Int × H)
 | (a0, a1, h) =>
 (if (decide (a0 < 1)) = true then (
 some (true, h))
 else (
 some ((decide (a0 > 64)), h))).bind fun (b1, h2) =>
 (if b1 = true then (
 some (true, h2))
 else (
 some ((decide (a1 < 0)), h2))).bind fun (b3, h4) =>
 (if b3 = true then (
 some (true, h4))
 else (
 some ((decide (a1 > 64)), h4))).bind fun (b5, h6) =>
 (if b5 = true then (
 some (0, h6))
 else (
 some ((IntKind.i64.wrap ((IntKind.i64.wrap (a1 + 2)) * a0)), h6)))
abbrev ks16 : List SK := [.one (.int .i64), .one (.int .i64)]
abbrev rs16 : List SK := [.one (.int .i64)]
def e16 (N : Nat) : Env := ⟨Tryz.prog, 23, inTab [], inTab [], natTab [], inTab [], calTab [], altTab [], loopTab [], natTab [], inTab []⟩
theorem fine16 (N : Nat) : Fine (e16 N) N 16 Tryz.f16 ks16 rs16 (F16 N) :=
  ⟨Tryz.func16, by kernel_rfl, by kernel_rfl, by kernel_rfl, loops_of trivial, by kernel_rfl, by kernel_rfl, fun _ => by kernel_rfl⟩
theorem good16 (N : Nat) : Go.L.Good (e16 N) := good_of trivial
theorem gd16 : CalOk Tryz.prog 16 (.pure (mkP ks16 rs16 (F16 100))) := mkP_good (fine16 100) (good16 100) (by kernel_rfl) (by kernel_rfl)

/-! ### 14: carouselref23.Worst -/
def L14_0 (N : Nat) : Nat → Int × V × Int × H → Option ((Int × V × H) ⊕ (Int × Int × H))
 | 0, _ => none
 | n + 1, (x14, x15, x16, h17) =>
 (slen x15).bind fun n18 =>
 (if (decide (x16 < n18)) = true then (
 (sidx x15 x16 7).bind fun q19 =>
 (L.asInt .i64 (rd h17 (padd q19 3) 0)).bind fun x20 =>
 (if (decide (x20 < 0)) = true then (
 some (true, h17))
 else (
 (sidx x15 x16 7).bind fun q23 =>
 (L.asInt .i64 (rd h17 (padd q23 3) 0)).bind fun x24 =>
 some ((decide (x24 > 4611686018427387903)), h17))).bind fun (b21, h22) =>
 (if b21 = true then (
 some (.inr (0, 1, h22)))
 else (
 L14_0 N n (x14, x15, (IntKind.i64.wrap (x16 + 1)), h22))))
 else (
 some (.inl (x14, x15, h17))))
def L14_1 (N : Nat) : Nat → Int × V × Int × Int × H → Option (Int × H)
 | 0, _ => none
 | n + 1, (x51, x52, x53, x54, h55) =>
 (slen x52).bind fun n56 =>
 (if (decide (x54 < n56)) = true then (
 (sidx x52 x54 7).bind fun q57 =>
 (L.asInt .i64 (rd h55 (padd q57 4) 0)).bind fun x58 =>
 (F16 100 (x51, x58, [])).bind fun (x59, _) =>
 (sidx x52 x54 7).bind fun q60 =>
 (L.asInt .i64 (rd h55 (padd q60 3) 0)).bind fun x61 =>
 (sidx x52 x53 7).bind fun q62 =>
 (L.asInt .i64 (rd h55 (padd q62 4) 0)).bind fun x63 =>
 (F16 100 (x51, x63, [])).bind fun (x64, _) =>
 (sidx x52 x53 7).bind fun q65 =>
 (L.asInt .i64 (rd h55 (padd q65 3) 0)).bind fun x66 =>
 ((if (decide ((IntKind.i64.wrap (x59 - x61)) < (IntKind.i64.wrap (x64 - x66)))) = true then (
 some (x51, x52, x54, x54, h55))
 else (
 some (x51, x52, x53, x54, h55))) : Option (Int × V × Int × Int × H)).bind fun (x67, x68, x69, x70, h71) =>
 L14_1 N n (x67, x68, x69, (IntKind.i64.wrap (x70 + 1)), h71))
 else (
 some (x53, h55)))
def F14 (N : Nat) : Int × V × H → Option (Int × Int × H)
 | (a0, a1, h) =>
 (if (decide (a0 < 1)) = true then (
 some (true, h))
 else (
 some ((decide (a0 > 64)), h))).bind fun (b1, h2) =>
 (if b1 = true then (
 some (0, 1, h2))
 else (
 (L14_0 N N (a0, a1, 0, h2)).bind fun o25 => match o25 with
 | .inl (x26, x27, h28) => (
 (slen x27).bind fun n29 =>
 (if (n29 == 0) = true then (
 some (0, 3, h28))
 else (
 (L14_1 N N (x26, x27, 0, 1, h28)).bind fun (x72, h73) =>
 some (x72, 0, h73))))
 | .inr (x74, x75, h76) => (
 some (x74, x75, h76))))
abbrev ks14 : List SK := [.one (.int .i64), .one .ref]
abbrev rs14 : List SK := [.one (.int .i64), .one (.int .i64)]
def e14 (N : Nat) : Env := ⟨Tryz.prog, 73, inTab [], inTab [], natTab [], inTab [], calTab [(16, .pure (mkP ks16 rs16 (F16 100)))], altTab [(983110, [⟨.normal, [0, 1, 7, 8], [.one (.int .i64), .one .ref, .one (.int .i64), .one (.int .i64)], [], []⟩])], loopTab [(4, ⟨⟨.normal, [0, 1, 6], [.one (.int .i64), .one .ref, .one (.int .i64)], [], []⟩, [⟨(.exit 0), [0, 1], [.one (.int .i64), .one .ref], [], []⟩, ⟨.ret, [4, 5], [.one (.int .i64), .one (.int .i64)], [], []⟩], L14_0 N⟩), (12, ⟨⟨.normal, [0, 1, 7, 8], [.one (.int .i64), .one .ref, .one (.int .i64), .one (.int .i64)], [], []⟩, [⟨(.exit 2), [7], [.one (.int .i64)], [], []⟩], L14_1 N⟩)], natTab [], inTab []⟩
theorem l14_0 (N : Nat) : ∀ A, (e14 N).lp (lid (loopAt Tryz.f14 0)) = some A → LoopOk (e14 N) N (loopAt Tryz.f14 0) A :=
  loopOk_of (A := ⟨⟨.normal, [0, 1, 6], [.one (.int .i64), .one .ref, .one (.int .i64)], [], []⟩, [⟨(.exit 0), [0, 1], [.one (.int .i64), .one .ref], [], []⟩, ⟨.ret, [4, 5], [.one (.int .i64), .one (.int .i64)], [], []⟩], L14_0 N⟩) (by kernel_rfl) (fun _ => rfl) (fun _ _ => by kernel_rfl)
theorem l14_1 (N : Nat) : ∀ A, (e14 N).lp (lid (loopAt Tryz.f14 1)) = some A → LoopOk (e14 N) N (loopAt Tryz.f14 1) A :=
  loopOk_of (A := ⟨⟨.normal, [0, 1, 7, 8], [.one (.int .i64), .one .ref, .one (.int .i64), .one (.int .i64)], [], []⟩, [⟨(.exit 2), [7], [.one (.int .i64)], [], []⟩], L14_1 N⟩) (by kernel_rfl) (fun _ => rfl) (fun _ _ => by kernel_rfl)
theorem fine14 (N : Nat) : Fine (e14 N) N 14 Tryz.f14 ks14 rs14 (F14 N) :=
  ⟨Tryz.func14, by kernel_rfl, by kernel_rfl, by kernel_rfl, loops_of ⟨l14_0 N, ⟨l14_1 N, trivial⟩⟩, by kernel_rfl, by kernel_rfl, fun _ => by kernel_rfl⟩
theorem good14 (N : Nat) : Go.L.Good (e14 N) := good_of ⟨gd16, trivial⟩
theorem gd14 (N : Nat) : CalOk Tryz.prog 14 (.ro (mkFun ks14 rs14 (F14 N))) := mkFun_ro (fine14 N) (good14 N) (by kernel_rfl)

/-! ### 60: carouselref02.Check -/
def L60_0 (N : Nat) : Nat → V × Int × List V × H → Option (List V × H)
 | 0, _ => none
 | n + 1, (x15, x16, cs17, h18) =>
 (slen x15).bind fun n19 =>
 (if (decide (x16 < n19)) = true then (
 (sidx x15 x16 1).bind fun q20 =>
 (L.asInt .i64 (rd h18 q20 0)).bind fun x21 =>
 (if (decide (x21 < 0)) = true then (
 some (true, h18))
 else (
 (sidx x15 x16 1).bind fun q24 =>
 (L.asInt .i64 (rd h18 q24 0)).bind fun x25 =>
 some ((decide (x25 ≥ 3)), h18))).bind fun (b22, h23) =>
 (if b22 = true then (
 none)
 else (
 (sidx x15 x16 1).bind fun q26 =>
 (L.asInt .i64 (rd h23 q26 0)).bind fun x27 =>
 (if 0 ≤ x27 then (if x27 < 3 then (
 (if (0 + Int.toNat x27 * 1) + 1 ≤ (cs17).length then (
 L60_0 N n (x15, (IntKind.i64.wrap (x16 + 1)), (splice cs17 (0 + Int.toNat x27 * 1) [(.bool true)]), h23)) else none)) else none) else none))))
 else (
 some (cs17, h18)))
def L60_1 (N : Nat) : Nat → Int × List V × H → Option (H)
 | 0, _ => none
 | n + 1, (x34, cs35, h36) =>
 (if (decide (x34 < 3)) = true then (
 (if 0 ≤ x34 then (if x34 < 3 then (
 (L.asBool cs35[((0 + Int.toNat x34 * 1) + 0)]?).bind fun x37 =>
 (if (!x37) = true then (
 none)
 else (
 L60_1 N n ((IntKind.i64.wrap (x34 + 1)), cs35, h36)))) else none) else none))
 else (
 some h36))
def F60 (N : Nat) : V × H → Option (Int × H)
 | (a0, h) =>
 (slen a0).bind fun n1 =>
 (if (decide (n1 > 64)) = true then (
 none)
 else (
 (L60_0 N N (a0, 0, [(.bool false), (.bool false), (.bool false)], h)).bind fun (cs28, h29) =>
 (L60_1 N N (0, cs28, h29)).bind fun h38 =>
 some (0, h38)))
abbrev ks60 : List SK := [.one .ref]
abbrev rs60 : List SK := [.one (.int .i64)]
def e60 (N : Nat) : Env := ⟨Tryz.prog, 40, inTab [3], inTab [], natTab [(3, 3), (31, 3), (37, 3)], inTab [], calTab [], altTab [], loopTab [(5, ⟨⟨.normal, [0, 3, 4], [.one .ref, .lp 3 0, .one (.int .i64)], [3], [.blk]⟩, [⟨(.exit 0), [3], [.lp 3 0], [3], [.blk]⟩], L60_0 N⟩), (11, ⟨⟨.normal, [3, 5], [.lp 3 0, .one (.int .i64)], [3], [.blk]⟩, [⟨(.exit 2), [], [], [], []⟩], L60_1 N⟩)], natTab [], inTab [2, 8, 14]⟩
theorem l60_0 (N : Nat) : ∀ A, (e60 N).lp (lid (loopAt Tryz.f60 0)) = some A → LoopOk (e60 N) N (loopAt Tryz.f60 0) A :=
  loopOk_of (A := ⟨⟨.normal, [0, 3, 4], [.one .ref, .lp 3 0, .one (.int .i64)], [3], [.blk]⟩, [⟨(.exit 0), [3], [.lp 3 0], [3], [.blk]⟩], L60_0 N⟩) (by kernel_rfl) (fun _ => rfl) (fun _ _ => by kernel_rfl)
theorem l60_1 (N : Nat) : ∀ A, (e60 N).lp (lid (loopAt Tryz.f60 1)) = some A → LoopOk (e60 N) N (loopAt Tryz.f60 1) A :=
  loopOk_of (A := ⟨⟨.normal, [3, 5], [.lp 3 0, .one (.int .i64)], [3], [.blk]⟩, [⟨(.exit 2), [], [], [], []⟩], L60_1 N⟩) (by kernel_rfl) (fun _ => rfl) (fun _ _ => by kernel_rfl)
theorem fine60 (N : Nat) : Fine (e60 N) N 60 Tryz.f60 ks60 rs60 (F60 N) :=
  ⟨Tryz.func60, by kernel_rfl, by kernel_rfl, by kernel_rfl, loops_of ⟨l60_0 N, ⟨l60_1 N, trivial⟩⟩, by kernel_rfl, by kernel_rfl, fun _ => by kernel_rfl⟩
theorem good60 (N : Nat) : Go.L.Good (e60 N) := good_of trivial
theorem gd60 (N : Nat) : CalOk Tryz.prog 60 (.ro (mkFun ks60 rs60 (F60 N))) := mkFun_ro (fine60 N) (good60 N) (by kernel_rfl)

/-! ### 61: carouselref15.New -/
def F61 (N : Nat) : H → Option (Bool × V × H)
 | h =>
 some (true, .nils, h)
abbrev ks61 : List SK := []
abbrev rs61 : List SK := [.agg [.bool, .ref]]
def e61 (N : Nat) : Env := ⟨Tryz.prog, 2, inTab [0], inTab [], natTab [(0, 0)], inTab [], calTab [], altTab [], loopTab [], natTab [], inTab []⟩
theorem fine61 (N : Nat) : Fine (e61 N) N 61 Tryz.f61 ks61 rs61 (F61 N) :=
  ⟨Tryz.func61, by kernel_rfl, by kernel_rfl, by kernel_rfl, loops_of trivial, by kernel_rfl, by kernel_rfl, fun _ => by kernel_rfl⟩
theorem good61 (N : Nat) : Go.L.Good (e61 N) := good_of trivial
theorem gd61 : CalOk Tryz.prog 61 (.pure (mkP ks61 rs61 (scalF ks61 rs61 (F61 100)))) := scal_pure (fine61 100) (good61 100)

/-! ### 62: carouselref14.New -/
def F62 (N : Nat) : Int × H → Option (Int × V × V × V × Int × H)
 | (a0, h) =>
 (if (decide (a0 < 1)) = true then (
 some (true, h))
 else (
 some ((decide (a0 > 256)), h))).bind fun (b1, h2) =>
 (if b1 = true then (
 none)
 else (
 (some (h2 ++ [O.rsv, O.rsv, O.rsv]) : Option H).bind fun h3 =>
 (if 0 ≤ a0 then (if a0 ≤ a0 then (if a0 * ((1 : Nat) : Int) ≤ ((mostCells : Nat) : Int) then (
 (hfill h3 3 (repeatC (Int.toNat a0) [(.int .i64 0)])).bind fun h4 =>
 (if 0 ≤ a0 then (if a0 ≤ a0 then (if a0 * ((1 : Nat) : Int) ≤ ((mostCells : Nat) : Int) then (
 (hfill h4 2 (repeatC (Int.toNat a0) [(.bool false)])).bind fun h5 =>
 (if 0 ≤ a0 then (if a0 ≤ a0 then (if a0 * ((1 : Nat) : Int) ≤ ((mostCells : Nat) : Int) then (
 (hfill h5 1 (repeatC (Int.toNat a0) [(.str (ByteArray.mk #[]))])).bind fun h6 =>
 (ck1 (.sl ((h3).length - 3) 1 0 (Int.toNat a0) 1 (some (Int.toNat a0)))).bind fun _ =>
 (ck1 (.sl ((h4).length - 2) 1 0 (Int.toNat a0) 1 (some (Int.toNat a0)))).bind fun _ =>
 (ck1 (.sl ((h5).length - 1) 1 0 (Int.toNat a0) 1 (some (Int.toNat a0)))).bind fun _ =>
 some (a0, (.sl ((h3).length - 3) 1 0 (Int.toNat a0) 1 (some (Int.toNat a0))), (.sl ((h4).length - 2) 1 0 (Int.toNat a0) 1 (some (Int.toNat a0))), (.sl ((h5).length - 1) 1 0 (Int.toNat a0) 1 (some (Int.toNat a0))), 0, h6)) else none) else none) else none)) else none) else none) else none)) else none) else none) else none)))
abbrev ks62 : List SK := [.one (.int .i64)]
abbrev rs62 : List SK := [.agg [(.int .i64), .ref, .ref, .ref], .one (.int .i64)]
def e62 (N : Nat) : Env := ⟨Tryz.prog, 20, inTab [2, 4], inTab [], natTab [(2, 2), (4, 4)], inTab [], calTab [], altTab [], loopTab [], natTab [(14, 3), (16, 2), (18, 1)], inTab [3]⟩
theorem fine62 (N : Nat) : Fine (e62 N) N 62 Tryz.f62 ks62 rs62 (F62 N) :=
  ⟨Tryz.func62, by kernel_rfl, by kernel_rfl, by kernel_rfl, loops_of trivial, by kernel_rfl, by kernel_rfl, fun _ => by kernel_rfl⟩
theorem good62 (N : Nat) : Go.L.Good (e62 N) := good_of trivial
theorem gd62 (N : Nat) : CalOk Tryz.prog 62 (.full (mkFun ks62 rs62 (F62 N))) := mkFun_good (fine62 N) (good62 N)

/-! ### 63: carouselref17.New -/
def F63 (N : Nat) : Int × H → Option (V × Int × H)
 | (a0, h) =>
 (if (decide (a0 < 1)) = true then (
 some (true, h))
 else (
 some ((decide (a0 > 16)), h))).bind fun (b1, h2) =>
 (if b1 = true then (
 none)
 else (
 (if 0 ≤ a0 then (if a0 ≤ a0 then (if a0 * ((3 : Nat) : Int) ≤ ((mostCells : Nat) : Int) then (
 (some (h2 ++ [O.cells 0 (repeatC (Int.toNat a0) [(.int .i64 0), (.int .i64 0), (.int .i64 0)])]) : Option H).bind fun h3 =>
 (ck1 (.sl (h2).length 0 0 (Int.toNat a0) 3 (some (Int.toNat a0)))).bind fun _ =>
 some ((.sl (h2).length 0 0 (Int.toNat a0) 3 (some (Int.toNat a0))), 0, h3)) else none) else none) else none)))
abbrev ks63 : List SK := [.one (.int .i64)]
abbrev rs63 : List SK := [.agg [.ref], .one (.int .i64)]
def e63 (N : Nat) : Env := ⟨Tryz.prog, 14, inTab [2], inTab [], natTab [(2, 2)], inTab [], calTab [], altTab [], loopTab [], natTab [], inTab [2]⟩
theorem fine63 (N : Nat) : Fine (e63 N) N 63 Tryz.f63 ks63 rs63 (F63 N) :=
  ⟨Tryz.func63, by kernel_rfl, by kernel_rfl, by kernel_rfl, loops_of trivial, by kernel_rfl, by kernel_rfl, fun _ => by kernel_rfl⟩
theorem good63 (N : Nat) : Go.L.Good (e63 N) := good_of trivial
theorem gdg63 (N : Nat) : CalOk Tryz.prog 63 (.gro (mkFun ks63 rs63 (F63 N))) := mkFun_groC (fine63 N) (good63 N) (by kernel_rfl)

/-! ### 64: carouselref20.New -/
def F64 (N : Nat) : Int × H → Option (List V × Int × H)
 | (a0, h) =>
 (if (decide (a0 < 1)) = true then (
 some (true, h))
 else (
 some ((decide (a0 > 4096)), h))).bind fun (b1, h2) =>
 (if b1 = true then (
 none)
 else (
 some (((.int .i64 a0) :: .nils :: List.replicate 33 (.int .i64 0)), 0, h2)))
abbrev ks64 : List SK := [.one (.int .i64)]
abbrev rs64 : List SK := [.blk, .one (.int .i64)]
def e64 (N : Nat) : Env := ⟨Tryz.prog, 15, inTab [2, 4], inTab [], natTab [(2, 2), (4, 4), (13, 4)], inTab [], calTab [], altTab [], loopTab [], natTab [], inTab [3]⟩
theorem fine64 (N : Nat) : Fine (e64 N) N 64 Tryz.f64 ks64 rs64 (F64 N) :=
  ⟨Tryz.func64, by kernel_rfl, by kernel_rfl, by kernel_rfl, loops_of trivial, by kernel_rfl, by kernel_rfl, fun _ => by kernel_rfl⟩
theorem good64 (N : Nat) : Go.L.Good (e64 N) := good_of trivial
theorem gd64 (N : Nat) : CalOk Tryz.prog 64 (.ro (mkFun ks64 rs64 (F64 N))) := mkFun_ro (fine64 N) (good64 N) (by kernel_rfl)

/-! ### 65: carouselref18.New -/
def F65 (N : Nat) : V × H → Option (List V × Int × H)
 | (a0, h) =>
 (F60 N (a0, h)).bind fun (x1, _) =>
 (if (x1 != 0) = true then (
 none)
 else (
 (scells h a0 1).bind fun cs4 =>
 (happ h .nils 1 (snlen a0) cs4).bind fun (v2, h3) =>
 (ck1 v2).bind fun _ =>
 some ([v2, (.int .i64 0), .nils, .nils, .nils], 0, h3)))
abbrev ks65 : List SK := [.one .ref]
abbrev rs65 : List SK := [.blk, .one (.int .i64)]
def e65 (N : Nat) : Env := ⟨Tryz.prog, 18, inTab [2, 4], inTab [], natTab [(2, 2), (4, 4), (12, 4), (16, 4)], inTab [], calTab [(60, .ro (mkFun ks60 rs60 (F60 N)))], altTab [], loopTab [], natTab [], inTab [4]⟩
theorem fine65 (N : Nat) : Fine (e65 N) N 65 Tryz.f65 ks65 rs65 (F65 N) :=
  ⟨Tryz.func65, by kernel_rfl, by kernel_rfl, by kernel_rfl, loops_of trivial, by kernel_rfl, by kernel_rfl, fun _ => by kernel_rfl⟩
theorem good65 (N : Nat) : Go.L.Good (e65 N) := good_of ⟨gd60 N, trivial⟩
theorem gd65 (N : Nat) : CalOk Tryz.prog 65 (.full (mkFun ks65 rs65 (F65 N))) := mkFun_good (fine65 N) (good65 N)

/-! ### 66: carouselref13.New -/
def F66 (N : Nat) : Int × H → Option (Bool × Int × V × Int × H)
 | (a0, h) =>
 (if (decide (a0 < 0)) = true then (
 some (true, h))
 else (
 some ((decide (a0 > 4611686018426339327)), h))).bind fun (b1, h2) =>
 (if b1 = true then (
 none)
 else (
 some (true, a0, .nils, 0, h2)))
abbrev ks66 : List SK := [.one (.int .i64)]
abbrev rs66 : List SK := [.agg [.bool, (.int .i64), .ref], .one (.int .i64)]
def e66 (N : Nat) : Env := ⟨Tryz.prog, 13, inTab [2], inTab [], natTab [(2, 2)], inTab [], calTab [], altTab [], loopTab [], natTab [], inTab [2]⟩
theorem fine66 (N : Nat) : Fine (e66 N) N 66 Tryz.f66 ks66 rs66 (F66 N) :=
  ⟨Tryz.func66, by kernel_rfl, by kernel_rfl, by kernel_rfl, loops_of trivial, by kernel_rfl, by kernel_rfl, fun _ => by kernel_rfl⟩
theorem good66 (N : Nat) : Go.L.Good (e66 N) := good_of trivial
theorem gd66 (N : Nat) : CalOk Tryz.prog 66 (.ro (mkFun ks66 rs66 (F66 N))) := mkFun_ro (fine66 N) (good66 N) (by kernel_rfl)

/-! ### 36: carouselref21.New -/
def L36_0 (N : Nat) : Nat → Int × V × V × Int × H → Option (V × H)
 | 0, _ => none
 | n + 1, (x54, x55, x56, x57, h58) =>
 (if (decide (x57 < x54)) = true then (
 (F65 N (x55, h58)).bind fun (cs59, x60, h61) =>
 (L.asAgg 5 (some (.agg cs59))).bind fun cs62 =>
 (if (cs62).length = 5 then (
 (if 0 + (cs62).length ≤ 5 then (
 (F66 N (0, h61)).bind fun (x63, x64, x65, x66, _) =>
 (nck x56).bind fun _ =>
 ((rd h61 (padd x56 9) 0)).bind fun x67 =>
 ((if 0 + 5 ≤ ((splice [.nils, (.int .i64 0), .nils, .nils, .nils] 0 cs62)).length then some ((((splice [.nils, (.int .i64 0), .nils, .nils, .nils] 0 cs62)).drop 0).take 5) else none) : Option (List V)).bind fun cs68 =>
 (if (cs68).length = 5 then (
 (if 0 + (cs68).length ≤ 5 then (
 (scells h61 (.rs 5 (chunks 5 1 (splice [.nils, (.int .i64 0), .nils, .nils, .nils] 0 cs68))) 5).bind fun cs71 =>
 (happ h61 x67 5 (snlen (.rs 5 (chunks 5 1 (splice [.nils, (.int .i64 0), .nils, .nils, .nils] 0 cs68)))) cs71).bind fun (v69, h70) =>
 (nck x56).bind fun _ =>
 (ck1 v69).bind fun _ =>
 (wr h70 (padd x56 9) [v69]).bind fun h72 =>
 (nck x56).bind fun _ =>
 ((rd h72 (padd x56 10) 0)).bind fun x73 =>
 (happ h72 x73 3 1 [(.bool x63), (.int .i64 x64), x65]).bind fun (v74, h75) =>
 (nck x56).bind fun _ =>
 (ck1 v74).bind fun _ =>
 (wr h75 (padd x56 10) [v74]).bind fun h76 =>
 L36_0 N n (x54, x55, x56, (IntKind.i64.wrap (x57 + 1)), h76)) else none)) else none)) else none)) else none))
 else (
 some (x56, h58)))
def F36 (N : Nat) : Int × V × H → Option (V × Int × H)
 | (a0, a1, h) =>
 (if (decide (a0 < 1)) = true then (
 some (true, h))
 else (
 some ((decide (a0 > 16)), h))).bind fun (b1, h2) =>
 (if b1 = true then (
 none)
 else (
 (F60 N (a1, h2)).bind fun (x3, _) =>
 (if (x3 != 0) = true then (
 none)
 else (
 (some (h2 ++ [O.rsv, O.rsv]) : Option H).bind fun h4 =>
 Option.bind (α := (Bool × V × H)) (scalF ks61 rs61 (F61 100) ([] : H)) fun (x5, x6, _) =>
 (if 0 ≤ a0 then (if a0 ≤ a0 then (if a0 * ((1 : Nat) : Int) ≤ ((mostCells : Nat) : Int) then (
 (hfill h4 2 (repeatC (Int.toNat a0) [(.int .i64 0)])).bind fun h7 =>
 (if 0 ≤ a0 then (if a0 ≤ a0 then (if a0 * ((1 : Nat) : Int) ≤ ((mostCells : Nat) : Int) then (
 (hfill h7 1 (repeatC (Int.toNat a0) [(.int .i64 0)])).bind fun h8 =>
 (ck1 (.sl ((h4).length - 2) 1 0 (Int.toNat a0) 1 (some (Int.toNat a0)))).bind fun _ =>
 (ck1 (.sl ((h7).length - 1) 1 0 (Int.toNat a0) 1 (some (Int.toNat a0)))).bind fun _ =>
 (some (h8 ++ [O.cells 0 [.nils, .nils, (.int .i64 0), .nils, .nils, .nils, .nils, (.bool x5), x6, .nils, .nils, (.sl ((h4).length - 2) 1 0 (Int.toNat a0) 1 (some (Int.toNat a0))), (.sl ((h7).length - 1) 1 0 (Int.toNat a0) 1 (some (Int.toNat a0))), .nils, (.int .i64 0), (.int .i64 1), .nils, (.int .i64 0), .nils, (.int .i64 0), (.int .i64 0), (.int .i64 0), (.int .i64 0), (.int .i64 0), (.int .i64 0), (.int .i64 0), (.int .i64 0), (.int .i64 0), (.int .i64 0), (.int .i64 0), (.int .i64 0), (.int .i64 0), (.int .i64 0), (.int .i64 0), (.int .i64 0), (.int .i64 0), (.int .i64 0), (.int .i64 0), (.int .i64 0), (.int .i64 0), (.int .i64 0), (.int .i64 0), (.int .i64 0), (.int .i64 0), (.int .i64 0), (.int .i64 0), (.int .i64 0), (.int .i64 0), (.int .i64 0), (.int .i64 0), (.int .i64 0), (.int .i64 0), .nils, (.int .i64 0), .nils]]) : Option H).bind fun h9 =>
 ((rd h9 (.ptr (h8).length 0 0) 0)).bind fun x10 =>
 (scells h9 a1 1).bind fun cs13 =>
 (happ h9 x10 1 (snlen a1) cs13).bind fun (v11, h12) =>
 (ck1 v11).bind fun _ =>
 (wr h12 (.ptr (h8).length 0 0) [v11]).bind fun h14 =>
 (F62 N (256, h14)).bind fun (x15, x16, x17, x18, x19, h20) =>
 (wr h20 (.ptr (h8).length 0 2) [(.int .i64 x15), x16, x17, x18]).bind fun h21 =>
 (F63 N (a0, h21)).bind fun (x22, x23, h24) =>
 (wr h24 (.ptr (h8).length 0 6) [x22]).bind fun h25 =>
 (F64 N (4096, h25)).bind fun (cs26, x27, _) =>
 (L.asAgg 35 (some (.agg cs26))).bind fun cs28 =>
 (if (cs28).length = 35 then (
 (if 0 + (cs28).length ≤ 35 then (
 ((if 0 + 35 ≤ ((splice ((.int .i64 0) :: .nils :: List.replicate 33 (.int .i64 0)) 0 cs28)).length then some ((((splice ((.int .i64 0) :: .nils :: List.replicate 33 (.int .i64 0)) 0 cs28)).drop 0).take 35) else none) : Option (List V)).bind fun cs29 =>
 (if (cs29).length = 35 then (
 (wr h25 (.ptr (h8).length 0 17) cs29).bind fun h30 =>
 (L36_0 N N (a0, a1, (.ptr (h8).length 0 0), 0, h30)).bind fun (x77, h78) =>
 some (x77, 0, h78)) else none)) else none)) else none)) else none) else none) else none)) else none) else none) else none)))))
abbrev ks36 : List SK := [.one (.int .i64), .one .ref]
abbrev rs36 : List SK := [.one .ref, .one (.int .i64)]
def e36 (N : Nat) : Env := ⟨Tryz.prog, 106, inTab [8, 10, 12, 15, 17, 91, 101], inTab [], natTab [(8, 8), (10, 10), (12, 12), (15, 15), (17, 17)], inTab [], calTab [(60, .ro (mkFun ks60 rs60 (F60 N))), (61, .pure (mkP ks61 rs61 (scalF ks61 rs61 (F61 100)))), (62, .full (mkFun ks62 rs62 (F62 N))), (63, .gro (mkFun ks63 rs63 (F63 N))), (64, .ro (mkFun ks64 rs64 (F64 N))), (65, .full (mkFun ks65 rs65 (F65 N))), (66, .ro (mkFun ks66 rs66 (F66 N)))], altTab [], loopTab [(15, ⟨⟨.normal, [0, 1, 7, 14], [.one (.int .i64), .one .ref, .one .ref, .one (.int .i64)], [], []⟩, [⟨(.exit 0), [7], [.one .ref], [], []⟩], L36_0 N⟩)], natTab [(32, 2), (34, 1)], inTab [2, 5]⟩
theorem l36_0 (N : Nat) : ∀ A, (e36 N).lp (lid (loopAt Tryz.f36 0)) = some A → LoopOk (e36 N) N (loopAt Tryz.f36 0) A :=
  loopOk_of (A := ⟨⟨.normal, [0, 1, 7, 14], [.one (.int .i64), .one .ref, .one .ref, .one (.int .i64)], [], []⟩, [⟨(.exit 0), [7], [.one .ref], [], []⟩], L36_0 N⟩) (by kernel_rfl) (fun _ => rfl) (fun _ _ => by kernel_rfl)
theorem fine36 (N : Nat) : Fine (e36 N) N 36 Tryz.f36 ks36 rs36 (F36 N) :=
  ⟨Tryz.func36, by kernel_rfl, by kernel_rfl, by kernel_rfl, loops_of ⟨l36_0 N, trivial⟩, by kernel_rfl, by kernel_rfl, fun _ => by kernel_rfl⟩
theorem good36 (N : Nat) : Go.L.Good (e36 N) := good_of ⟨gd60 N, ⟨gd61, ⟨gd62 N, ⟨gdg63 N, ⟨gd64 N, ⟨gd65 N, ⟨gd66 N, trivial⟩⟩⟩⟩⟩⟩⟩
theorem gd36 (N : Nat) : CalOk Tryz.prog 36 (.full (mkFun ks36 rs36 (F36 N))) := mkFun_good (fine36 N) (good36 N)
theorem gl36 (N : Nat) : CalOk Tryz.prog 36 (.full (mkFun ks36 rs36 (locF false ks36 rs36 (F36 N)))) := loc_full (gd36 N)

/-! ### 67: carouselref21.Node).full -/
def F67 (N : Nat) : V × H → Option (Bool × H)
 | (a0, h) =>
 (nck a0).bind fun _ =>
 ((rd h (padd a0 52) 0)).bind fun x1 =>
 (slen x1).bind fun n2 =>
 some ((decide (n2 ≥ 65536)), h)
abbrev ks67 : List SK := [.one .ref]
abbrev rs67 : List SK := [.one .bool]
def e67 (N : Nat) : Env := ⟨Tryz.prog, 9, inTab [], inTab [], natTab [], inTab [], calTab [], altTab [], loopTab [], natTab [], inTab []⟩
theorem fine67 (N : Nat) : Fine (e67 N) N 67 Tryz.f67 ks67 rs67 (F67 N) :=
  ⟨Tryz.func67, by kernel_rfl, by kernel_rfl, by kernel_rfl, loops_of trivial, by kernel_rfl, by kernel_rfl, fun _ => by kernel_rfl⟩
theorem good67 (N : Nat) : Go.L.Good (e67 N) := good_of trivial
theorem gd67 (N : Nat) : CalOk Tryz.prog 67 (.ro (mkFun ks67 rs67 (F67 N))) := mkFun_ro (fine67 N) (good67 N) (by kernel_rfl)

/-! ### 482: carouselref03.lower -/
def F482 (N : Nat) : Int × H → Option (Bool × H)
 | (a0, h) =>
 (if (decide (a0 ≥ 97)) = true then (
 some ((decide (a0 ≤ 122)), h))
 else (
 some (false, h))).bind fun (b1, h2) =>
 some (b1, h2)
abbrev ks482 : List SK := [.one (.int .u8)]
abbrev rs482 : List SK := [.one .bool]
def e482 (N : Nat) : Env := ⟨Tryz.prog, 9, inTab [], inTab [], natTab [], inTab [], calTab [], altTab [], loopTab [], natTab [], inTab []⟩
theorem fine482 (N : Nat) : Fine (e482 N) N 482 Tryz.f482 ks482 rs482 (F482 N) :=
  ⟨Tryz.func482, by kernel_rfl, by kernel_rfl, by kernel_rfl, loops_of trivial, by kernel_rfl, by kernel_rfl, fun _ => by kernel_rfl⟩
theorem good482 (N : Nat) : Go.L.Good (e482 N) := good_of trivial
theorem gd482 : CalOk Tryz.prog 482 (.pure (mkP ks482 rs482 (F482 100))) := mkP_good (fine482 100) (good482 100) (by kernel_rfl) (by kernel_rfl)

/-! ### 389: carouselref03.Atom -/
def L389_0 (N : Nat) : Nat → ByteArray × Int × H → Option (H)
 | 0, _ => none
 | n + 1, (x28, x29, h30) =>
 (if (decide (x29 < ((x28).size : Int))) = true then (
 (if 0 ≤ x29 then (x28[Int.toNat x29]?.bind fun c31 =>
 (F482 100 (((UInt8.toNat c31 : Nat) : Int), [])).bind fun (x32, _) =>
 (if (!x32) = true then (
 (if (decide (((UInt8.toNat c31 : Nat) : Int) ≥ 65)) = true then (
 some ((decide (((UInt8.toNat c31 : Nat) : Int) ≤ 90)), h30))
 else (
 some (false, h30))).bind fun (b35, h36) =>
 some ((!b35), h36))
 else (
 some (false, h30))).bind fun (b33, h34) =>
 (if b33 = true then (
 (if (decide (((UInt8.toNat c31 : Nat) : Int) ≥ 48)) = true then (
 some ((decide (((UInt8.toNat c31 : Nat) : Int) ≤ 57)), h34))
 else (
 some (false, h34))).bind fun (b39, h40) =>
 some ((!b39), h40))
 else (
 some (false, h34))).bind fun (b37, h38) =>
 (if b37 = true then (
 some ((((UInt8.toNat c31 : Nat) : Int) != 95), h38))
 else (
 some (false, h38))).bind fun (b41, h42) =>
 (if b41 = true then (
 none)
 else (
 L389_0 N n (x28, (IntKind.i64.wrap (x29 + 1)), h42)))) else none))
 else (
 some h30))
def F389 (N : Nat) : ByteArray × H → Option (Bool × H)
 | (a0, h) =>
 (if (decide (((a0).size : Int) < 1)) = true then (
 some (true, h))
 else (
 some ((decide (((a0).size : Int) > 64)), h))).bind fun (b1, h2) =>
 (if b1 = true then (
 some (true, h2))
 else (
 (if 0 ≤ 0 then (a0[Int.toNat 0]?.bind fun c5 =>
 (F482 100 (((UInt8.toNat c5 : Nat) : Int), [])).bind fun (x6, _) =>
 some ((!x6), h2)) else none))).bind fun (b3, h4) =>
 (if b3 = true then (
 some (true, h4))
 else (
 some (((a0).toList == ((ByteArray.mk #[110, 105, 108])).toList), h4))).bind fun (b7, h8) =>
 (if b7 = true then (
 some (true, h8))
 else (
 some (((a0).toList == ((ByteArray.mk #[116, 114, 117, 101])).toList), h8))).bind fun (b9, h10) =>
 (if b9 = true then (
 some (true, h10))
 else (
 some (((a0).toList == ((ByteArray.mk #[102, 97, 108, 115, 101])).toList), h10))).bind fun (b11, h12) =>
 (if b11 = true then (
 none)
 else (
 (L389_0 N N (a0, 0, h12)).bind fun h43 =>
 some (true, h43)))
abbrev ks389 : List SK := [.one .str]
abbrev rs389 : List SK := [.one .bool]
def e389 (N : Nat) : Env := ⟨Tryz.prog, 65, inTab [], inTab [], natTab [], inTab [], calTab [(482, .pure (mkP ks482 rs482 (F482 100)))], altTab [], loopTab [(4, ⟨⟨.normal, [0, 3], [.one .str, .one (.int .i64)], [], []⟩, [⟨(.exit 0), [], [], [], []⟩], L389_0 N⟩)], natTab [], inTab [2, 8]⟩
theorem l389_0 (N : Nat) : ∀ A, (e389 N).lp (lid (loopAt Tryz.f389 0)) = some A → LoopOk (e389 N) N (loopAt Tryz.f389 0) A :=
  loopOk_of (A := ⟨⟨.normal, [0, 3], [.one .str, .one (.int .i64)], [], []⟩, [⟨(.exit 0), [], [], [], []⟩], L389_0 N⟩) (by kernel_rfl) (fun _ => rfl) (fun _ _ => by kernel_rfl)
theorem fine389 (N : Nat) : Fine (e389 N) N 389 Tryz.f389 ks389 rs389 (F389 N) :=
  ⟨Tryz.func389, by kernel_rfl, by kernel_rfl, by kernel_rfl, loops_of ⟨l389_0 N, trivial⟩, by kernel_rfl, by kernel_rfl, fun _ => by kernel_rfl⟩
theorem good389 (N : Nat) : Go.L.Good (e389 N) := good_of ⟨gd482, trivial⟩
theorem gd389 : CalOk Tryz.prog 389 (.pure (mkP ks389 rs389 (F389 100))) := mkP_good (fine389 100) (good389 100) (by kernel_rfl) (by kernel_rfl)

/-! ### 391: carouselref03.zero -/
def F391 (N : Nat) : (Nat × Nat) × H → Option (Bool × H)
 | (a0, h) =>
 some ((Op.floatEq .f64 a0.1 0 && Op.floatEq .f64 a0.2 0), h)
abbrev ks391 : List SK := [.one (.cplx .f64)]
abbrev rs391 : List SK := [.one .bool]
def e391 (N : Nat) : Env := ⟨Tryz.prog, 5, inTab [], inTab [], natTab [], inTab [], calTab [], altTab [], loopTab [], natTab [], inTab []⟩
theorem fine391 (N : Nat) : Fine (e391 N) N 391 Tryz.f391 ks391 rs391 (F391 N) :=
  ⟨Tryz.func391, by kernel_rfl, by kernel_rfl, by kernel_rfl, loops_of trivial, by kernel_rfl, by kernel_rfl, fun _ => by kernel_rfl⟩
theorem good391 (N : Nat) : Go.L.Good (e391 N) := good_of trivial
theorem gd391 : CalOk Tryz.prog 391 (.pure (mkP ks391 rs391 (F391 100))) := mkP_good (fine391 100) (good391 100) (by kernel_rfl) (by kernel_rfl)

/-! ### 311: carouselref03.one -/
def F311 (N : Nat) : Int × Int × (Nat × Nat) × ByteArray × Int × Int × V × H → Option (Bool × H)
 | (a0_0, a0_1, a0_2, a0_3, a0_4, a0_5, a0_6, h) =>
 ((if (a0_0 == 1) = true then (
 some (true, a0_0, a0_1, (a0_2.1, a0_2.2), a0_3, a0_4, a0_5, a0_6, a0_0, 0, (0, 0), (ByteArray.mk #[]), 0, 0, .nils, h))
 else (
 (if (a0_0 == 2) = true then (
 none)
 else (
 (if (a0_0 == 3) = true then (
 none)
 else (
 (if (a0_0 == 7) = true then (
 none)
 else (
 (if (a0_0 == 4) = true then (
 none)
 else (
 (if (a0_0 == 5) = true then (
 (F389 100 (a0_3, [])).bind fun (x1, _) =>
 some (x1, a0_0, a0_1, (a0_2.1, a0_2.2), a0_3, a0_4, a0_5, a0_6, a0_0, 0, (0, 0), a0_3, 0, 0, .nils, h))
 else (
 none)))))))))))) : Option (Bool × Int × Int × (Nat × Nat) × ByteArray × Int × Int × V × Int × Int × (Nat × Nat) × ByteArray × Int × Int × V × H)).bind fun (x2, x3, x4, x5, x6, x7, x8, x9, x10, x11, x12, x13, x14, x15, x16, h17) =>
 (if x2 = true then (
 (slen x9).bind fun n20 =>
 some ((n20 == 0), h17))
 else (
 some (false, h17))).bind fun (b18, h19) =>
 (if b18 = true then (
 some ((x4 == x11), h19))
 else (
 some (false, h19))).bind fun (b21, h22) =>
 (if b21 = true then (
 some (((x6).toList == (x13).toList), h22))
 else (
 some (false, h22))).bind fun (b23, h24) =>
 (if b23 = true then (
 some (((x7 == x14) && ((x8 == x15) && true)), h24))
 else (
 some (false, h24))).bind fun (b25, h26) =>
 (if b25 = true then (
 (if (x3 == 4) = true then (
 some (true, h26))
 else (
 (F391 100 ((x5.1, x5.2), [])).bind fun (x31, _) =>
 some (x31, h26))).bind fun (b29, h30) =>
 some (b29, h30))
 else (
 some (false, h26))).bind fun (b27, h28) =>
 some (b27, h28)
abbrev ks311 : List SK := [.agg [(.int .i64), (.int .i64), (.cplx .f64), .str, (.int .i64), (.int .i64), .ref]]
abbrev rs311 : List SK := [.one .bool]
def e311 (N : Nat) : Env := ⟨Tryz.prog, 143, inTab [1, 3], inTab [], natTab [(1, 1), (3, 3), (5, 1), (8, 1), (14, 1), (16, 3), (17, 1), (21, 1), (27, 1), (29, 3), (30, 1), (34, 1), (40, 1), (42, 3), (43, 1), (47, 1), (53, 1), (55, 3), (56, 1), (61, 1), (68, 1), (70, 3), (71, 1), (76, 1), (78, 3), (79, 1), (85, 1), (89, 1), (94, 1), (96, 3), (101, 1), (107, 1), (113, 1), (115, 3), (120, 1), (122, 3), (127, 1), (129, 3), (134, 1), (138, 1)], inTab [], calTab [(389, .pure (mkP ks389 rs389 (F389 100))), (391, .pure (mkP ks391 rs391 (F391 100)))], altTab [(1610612746, [⟨.normal, [1, 3, 4], [.lp 1 0, .lp 3 0, .one .bool], [1, 3], [.cells [(.int .i64), (.int .i64), (.cplx .f64), .str, (.int .i64), (.int .i64), .ref], .cells [(.int .i64), (.int .i64), (.cplx .f64), .str, (.int .i64), (.int .i64), .ref]]⟩])], loopTab [], natTab [], inTab [4, 7, 8, 10, 11, 13, 14, 16, 17, 21, 22, 23, 24, 25, 26]⟩
theorem fine311 (N : Nat) : Fine (e311 N) N 311 Tryz.f311 ks311 rs311 (F311 N) :=
  ⟨Tryz.func311, by kernel_rfl, by kernel_rfl, by kernel_rfl, loops_of trivial, by kernel_rfl, by kernel_rfl, fun _ => by kernel_rfl⟩
theorem good311 (N : Nat) : Go.L.Good (e311 N) := good_of ⟨gd389, ⟨gd391, trivial⟩⟩
theorem gd311 (N : Nat) : CalOk Tryz.prog 311 (.ro (mkFun ks311 rs311 (F311 N))) := mkFun_ro (fine311 N) (good311 N) (by kernel_rfl)

/-! ### 238: carouselref03.walk -/
def L238_0 (N : Nat) (rec : Int × Int × (Nat × Nat) × ByteArray × Int × Int × V × Int × Int × H → Option (Int × Int × H)) : Nat → Int × Int × Int × Int × (Nat × Nat) × ByteArray × Int × Int × V × H → Option (Int × H)
 | 0, _ => none
 | n + 1, (x15, x16, x17, x18, x19, x20, x21, x22, x23, h24) =>
 (slen x23).bind fun n25 =>
 (if (decide (x16 < n25)) = true then (
 none)
 else (
 some (x15, h24)))
def F238 (N : Nat) : Nat → Int × Int × (Nat × Nat) × ByteArray × Int × Int × V × Int × Int × H → Option (Int × Int × H)
 | 0, _ => none
 | d + 1, (a0_0, a0_1, a0_2, a0_3, a0_4, a0_5, a0_6, a1, a2, h) =>
 (if (decide (a1 ≥ 1024)) = true then (
 some (true, h))
 else (
 some ((decide (a2 ≥ 64)), h))).bind fun (b1, h2) =>
 (if b1 = true then (
 none)
 else (
 (F311 N (a0_0, a0_1, (a0_2.1, a0_2.2), a0_3, a0_4, a0_5, a0_6, h2)).bind fun (x3, _) =>
 (if (!x3) = true then (
 none)
 else (
 (L238_0 N (F238 N d) N ((IntKind.i64.wrap (a1 + 1)), 0, a0_0, a0_1, (a0_2.1, a0_2.2), a0_3, a0_4, a0_5, a0_6, h2)).bind fun (x26, h27) =>
 some (x26, 0, h27)))))
abbrev ks238 : List SK := [.agg [(.int .i64), (.int .i64), (.cplx .f64), .str, (.int .i64), (.int .i64), .ref], .one (.int .i64), .one (.int .i64)]
abbrev rs238 : List SK := [.one (.int .i64), .one (.int .i64)]
def e238 (N d : Nat) : Env := ⟨Tryz.prog, 49, inTab [3], inTab [], natTab [(3, 3), (25, 3), (32, 3)], inTab [], calTab [(311, .ro (mkFun ks311 rs311 (F311 N)))], altTab [], loopTab [(7, ⟨⟨.normal, [1, 3, 8], [.one (.int .i64), .lp 3 0, .one (.int .i64)], [3], [.cells [(.int .i64), (.int .i64), (.cplx .f64), .str, (.int .i64), (.int .i64), .ref]]⟩, [⟨(.exit 0), [1], [.one (.int .i64)], [], []⟩], L238_0 N (F238 N d)⟩)], natTab [], inTab [2, 4, 8, 9, 10, 11, 12]⟩
theorem l238_0 (N d : Nat) : ∀ A, (e238 N d).lp (lid (loopAt Tryz.f238 0)) = some A → LoopOk (e238 N d) N (loopAt Tryz.f238 0) A :=
  loopOk_of (A := ⟨⟨.normal, [1, 3, 8], [.one (.int .i64), .lp 3 0, .one (.int .i64)], [3], [.cells [(.int .i64), (.int .i64), (.cplx .f64), .str, (.int .i64), (.int .i64), .ref]]⟩, [⟨(.exit 0), [1], [.one (.int .i64)], [], []⟩], L238_0 N (F238 N d)⟩) (by kernel_rfl) (fun _ => rfl) (fun _ _ => by kernel_rfl)
theorem fine238 (N d : Nat) : Fine (e238 N d) N 238 Tryz.f238 ks238 rs238 (F238 N (d + 1)) :=
  ⟨Tryz.func238, by kernel_rfl, by kernel_rfl, by kernel_rfl, loops_of ⟨l238_0 N d, trivial⟩, by kernel_rfl, by kernel_rfl, fun _ => by kernel_rfl⟩
theorem gd238 (N : Nat) : ∀ d, CalOk Tryz.prog 238 (.ro (mkFun ks238 rs238 (F238 N d)))
  | 0 => fun vs h s he => by obtain ⟨t, _, he⟩ := Option.bind_eq_some_iff.1 he; cases he
  | d + 1 => mkFun_ro (fine238 N d) (good_of ⟨gd311 N, trivial⟩) (by kernel_rfl)
theorem good238 (N d : Nat) : Go.L.Good (e238 N d) := good_of ⟨gd311 N, trivial⟩

/-! ### 178: carouselref03.Check -/
def F178 (N : Nat) : Int × Int × (Nat × Nat) × ByteArray × Int × Int × V × H → Option (Int × H)
 | (a0_0, a0_1, a0_2, a0_3, a0_4, a0_5, a0_6, h) =>
 (F238 N N (a0_0, a0_1, (a0_2.1, a0_2.2), a0_3, a0_4, a0_5, a0_6, 0, 0, h)).bind fun (x1, x2, _) =>
 some (x2, h)
abbrev ks178 : List SK := [.agg [(.int .i64), (.int .i64), (.cplx .f64), .str, (.int .i64), (.int .i64), .ref]]
abbrev rs178 : List SK := [.one (.int .i64)]
def e178 (N : Nat) : Env := ⟨Tryz.prog, 11, inTab [1], inTab [], natTab [(1, 1)], inTab [], calTab [(238, .ro (mkFun ks238 rs238 (F238 N N)))], altTab [], loopTab [], natTab [], inTab []⟩
theorem fine178 (N : Nat) : Fine (e178 N) N 178 Tryz.f178 ks178 rs178 (F178 N) :=
  ⟨Tryz.func178, by kernel_rfl, by kernel_rfl, by kernel_rfl, loops_of trivial, by kernel_rfl, by kernel_rfl, fun _ => by kernel_rfl⟩
theorem good178 (N : Nat) : Go.L.Good (e178 N) := good_of ⟨gd238 N N, trivial⟩
theorem gd178 (N : Nat) : CalOk Tryz.prog 178 (.ro (mkFun ks178 rs178 (F178 N))) := mkFun_ro (fine178 N) (good178 N) (by kernel_rfl)

/-! ### 176: carouselref06.Atom -/
def F176 (N : Nat) : ByteArray × H → Option (Bool × H)
 | (a0, h) =>
 (F178 N (5, 0, (0, 0), a0, 0, 0, .nils, h)).bind fun (x1, _) =>
 some ((x1 == 0), h)
abbrev ks176 : List SK := [.one .str]
abbrev rs176 : List SK := [.one .bool]
def e176 (N : Nat) : Env := ⟨Tryz.prog, 7, inTab [], inTab [], natTab [], inTab [], calTab [(178, .ro (mkFun ks178 rs178 (F178 N)))], altTab [], loopTab [], natTab [], inTab []⟩
theorem fine176 (N : Nat) : Fine (e176 N) N 176 Tryz.f176 ks176 rs176 (F176 N) :=
  ⟨Tryz.func176, by kernel_rfl, by kernel_rfl, by kernel_rfl, loops_of trivial, by kernel_rfl, by kernel_rfl, fun _ => by kernel_rfl⟩
theorem good176 (N : Nat) : Go.L.Good (e176 N) := good_of ⟨gd178 N, trivial⟩
theorem gd176 : CalOk Tryz.prog 176 (.pure (mkP ks176 rs176 (F176 100))) := mkP_good (fine176 100) (good176 100) (by kernel_rfl) (by kernel_rfl)

/-! ### 120: carouselref06.heads -/
def L120_1 (N : Nat) : Nat → Int × Int × ByteArray × V × H → Option (Int × ByteArray × V × H)
 | 0, _ => none
 | n + 1, (x36, x37, x38, x39, h40) =>
 (if (decide (x37 < x36)) = true then (
 none)
 else (
 some (x36, x38, x39, h40)))
def L120_0 (N : Nat) : Nat → Int × ByteArray × V × H → Option (H)
 | 0, _ => none
 | n + 1, (x45, x46, x47, h48) =>
 (slen x47).bind fun n49 =>
 (if (decide (x45 < n49)) = true then (
 (sidx x47 x45 4).bind fun q50 =>
 (L.asStr (rd h48 q50 0)).bind fun x51 =>
 (L.asInt .i64 (rd h48 q50 1)).bind fun x52 =>
 (L.asInt .i64 (rd h48 q50 2)).bind fun x53 =>
 ((rd h48 q50 3)).bind fun x54 =>
 (F176 100 (x51, [])).bind fun (x55, _) =>
 (if (!x55) = true then (
 some (true, h48))
 else (
 some ((decide (x52 < 0)), h48))).bind fun (b56, h57) =>
 (if b56 = true then (
 some (true, h57))
 else (
 some ((decide (x52 > x53)), h57))).bind fun (b58, h59) =>
 (if b58 = true then (
 some (true, h59))
 else (
 some ((decide (x53 > 32)), h59))).bind fun (b60, h61) =>
 (if b60 = true then (
 some (true, h61))
 else (
 (slen x54).bind fun n64 =>
 some ((decide (n64 < 1)), h61))).bind fun (b62, h63) =>
 (if b62 = true then (
 some (true, h63))
 else (
 (slen x54).bind fun n67 =>
 some ((decide (n67 > 1024)), h63))).bind fun (b65, h66) =>
 (if b65 = true then (
 none)
 else (
 (L120_1 N N (x45, 0, x46, x47, h66)).bind fun (x68, x69, x70, h71) =>
 L120_0 N n ((IntKind.i64.wrap (x68 + 1)), x69, x70, h71))))
 else (
 some h48))
def F120 (N : Nat) : ByteArray × V × H → Option (Int × Int × H)
 | (a0_0, a0_1, h) =>
 (F176 100 (a0_0, [])).bind fun (x1, _) =>
 (if (!x1) = true then (
 some (true, h))
 else (
 (slen a0_1).bind fun n4 =>
 some ((decide (n4 < 1)), h))).bind fun (b2, h3) =>
 (if b2 = true then (
 some (true, h3))
 else (
 (slen a0_1).bind fun n7 =>
 some ((decide (n7 > 64)), h3))).bind fun (b5, h6) =>
 (if b5 = true then (
 none)
 else (
 (L120_0 N N (0, a0_0, a0_1, h6)).bind fun h72 =>
 some (0, 0, h72)))
abbrev ks120 : List SK := [.agg [.str, .ref]]
abbrev rs120 : List SK := [.one (.int .i64), .one (.int .i64)]
def e120 (N : Nat) : Env := ⟨Tryz.prog, 84, inTab [1, 5], inTab [], natTab [(1, 1), (5, 5), (7, 1), (12, 1), (18, 1), (24, 1), (30, 1), (35, 5), (40, 5), (45, 5), (47, 5), (52, 5), (57, 5), (63, 5), (74, 1), (80, 5)], inTab [], calTab [(176, .pure (mkP ks176 rs176 (F176 100)))], altTab [], loopTab [(4, ⟨⟨.normal, [1, 4], [.lp 1 0, .one (.int .i64)], [1], [.cells [.str, .ref]]⟩, [⟨(.exit 0), [], [], [], []⟩], L120_0 N⟩), (10, ⟨⟨.normal, [1, 4, 6], [.lp 1 0, .one (.int .i64), .one (.int .i64)], [1], [.cells [.str, .ref]]⟩, [⟨(.exit 2), [1, 4], [.lp 1 0, .one (.int .i64)], [1], [.cells [.str, .ref]]⟩], L120_1 N⟩)], natTab [], inTab [2, 8, 11, 12, 13]⟩
theorem l120_0 (N : Nat) : ∀ A, (e120 N).lp (lid (loopAt Tryz.f120 0)) = some A → LoopOk (e120 N) N (loopAt Tryz.f120 0) A :=
  loopOk_of (A := ⟨⟨.normal, [1, 4], [.lp 1 0, .one (.int .i64)], [1], [.cells [.str, .ref]]⟩, [⟨(.exit 0), [], [], [], []⟩], L120_0 N⟩) (by kernel_rfl) (fun _ => rfl) (fun _ _ => by kernel_rfl)
theorem l120_1 (N : Nat) : ∀ A, (e120 N).lp (lid (loopAt Tryz.f120 1)) = some A → LoopOk (e120 N) N (loopAt Tryz.f120 1) A :=
  loopOk_of (A := ⟨⟨.normal, [1, 4, 6], [.lp 1 0, .one (.int .i64), .one (.int .i64)], [1], [.cells [.str, .ref]]⟩, [⟨(.exit 2), [1, 4], [.lp 1 0, .one (.int .i64)], [1], [.cells [.str, .ref]]⟩], L120_1 N⟩) (by kernel_rfl) (fun _ => rfl) (fun _ _ => by kernel_rfl)
theorem fine120 (N : Nat) : Fine (e120 N) N 120 Tryz.f120 ks120 rs120 (F120 N) :=
  ⟨Tryz.func120, by kernel_rfl, by kernel_rfl, by kernel_rfl, loops_of ⟨l120_0 N, ⟨l120_1 N, trivial⟩⟩, by kernel_rfl, by kernel_rfl, fun _ => by kernel_rfl⟩
theorem good120 (N : Nat) : Go.L.Good (e120 N) := good_of ⟨gd176, trivial⟩
theorem gd120 (N : Nat) : CalOk Tryz.prog 120 (.ro (mkFun ks120 rs120 (F120 N))) := mkFun_ro (fine120 N) (good120 N) (by kernel_rfl)

/-! ### 177: carouselref06.zeroTerm -/
def F177 (N : Nat) : Int × Int × (Nat × Nat) × ByteArray × Int × Int × V × H → Option (Bool × H)
 | (a0_0, a0_1, a0_2, a0_3, a0_4, a0_5, a0_6, h) =>
 (if (a0_0 == 0) = true then (
 some ((a0_1 == 0), h))
 else (
 some (false, h))).bind fun (b1, h2) =>
 (if b1 = true then (
 some ((Op.floatEq .f64 a0_2.1 0 && Op.floatEq .f64 a0_2.2 0), h2))
 else (
 some (false, h2))).bind fun (b3, h4) =>
 (if b3 = true then (
 some (((a0_3).toList == ((ByteArray.mk #[])).toList), h4))
 else (
 some (false, h4))).bind fun (b5, h6) =>
 (if b5 = true then (
 some ((a0_4 == 0), h6))
 else (
 some (false, h6))).bind fun (b7, h8) =>
 (if b7 = true then (
 some ((a0_5 == 0), h8))
 else (
 some (false, h8))).bind fun (b9, h10) =>
 (if b9 = true then (
 (slen a0_6).bind fun n13 =>
 some ((n13 == 0), h10))
 else (
 some (false, h10))).bind fun (b11, h12) =>
 some (b11, h12)
abbrev ks177 : List SK := [.agg [(.int .i64), (.int .i64), (.cplx .f64), .str, (.int .i64), (.int .i64), .ref]]
abbrev rs177 : List SK := [.one .bool]
def e177 (N : Nat) : Env := ⟨Tryz.prog, 39, inTab [1], inTab [], natTab [(1, 1), (3, 1), (7, 1), (12, 1), (17, 1), (22, 1), (23, 1), (28, 1), (29, 1), (34, 1)], inTab [], calTab [], altTab [], loopTab [], natTab [], inTab []⟩
theorem fine177 (N : Nat) : Fine (e177 N) N 177 Tryz.f177 ks177 rs177 (F177 N) :=
  ⟨Tryz.func177, by kernel_rfl, by kernel_rfl, by kernel_rfl, loops_of trivial, by kernel_rfl, by kernel_rfl, fun _ => by kernel_rfl⟩
theorem good177 (N : Nat) : Go.L.Good (e177 N) := good_of trivial
theorem gd177 (N : Nat) : CalOk Tryz.prog 177 (.ro (mkFun ks177 rs177 (F177 N))) := mkFun_ro (fine177 N) (good177 N) (by kernel_rfl)

/-! ### 121: carouselref06.May -/
def F121 (N : Nat) : ByteArray × V × ByteArray × Int × Int × V × Int × Int × Int × Int × Int × (Nat × Nat) × ByteArray × Int × Int × V × V × H → Option (Bool × H)
 | (a0_0, a0_1, a1_0, a1_1, a1_2, a1_3, a2_0, a2_1, a2_2, a2_3, a2_4, a2_5, a2_6, a2_7, a2_8, a2_9, a2_10, h) =>
 (if (a2_0 != 1) = true then (
 (F177 N (a2_3, a2_4, (a2_5.1, a2_5.2), a2_6, a2_7, a2_8, a2_9, h)).bind fun (x3, _) =>
 some ((!x3), h))
 else (
 some (false, h))).bind fun (b1, h2) =>
 (if b1 = true then (
 none)
 else (
 (if (a2_0 != 27) = true then (
 some ((a2_0 != 33), h2))
 else (
 some (false, h2))).bind fun (b4, h5) =>
 (if b4 = true then (
 (slen a2_10).bind fun n8 =>
 some ((decide (n8 > 0)), h5))
 else (
 some (false, h5))).bind fun (b6, h7) =>
 (if b6 = true then (
 none)
 else (
 (if (a2_0 != 33) = true then (
 some ((a2_0 != 34), h7))
 else (
 some (false, h7))).bind fun (b9, h10) =>
 (if b9 = true then (
 some ((a2_2 != 0), h10))
 else (
 some (false, h10))).bind fun (b11, h12) =>
 (if b11 = true then (
 none)
 else (
 (if (a2_0 == 1) = true then (
 none)
 else (
 (if (a2_0 == 3) = true then (
 none)
 else (
 ((if (a2_0 == 4) = true then (
 some (a2_0, (a2_0 == 4), h12))
 else (
 some (a2_0, (a2_0 == 5), h12))) : Option (Int × Bool × H)).bind fun (x13, x14, h15) =>
 (if x14 = true then (
 none)
 else (
 (if (x13 == 17) = true then (
 none)
 else (
 ((if (x13 == 18) = true then (
 some (x13, (x13 == 18), h15))
 else (
 some (x13, (x13 == 19), h15))) : Option (Int × Bool × H)).bind fun (x16, x17, h18) =>
 (if x17 = true then (
 none)
 else (
 (if (x16 == 25) = true then (
 (if (x16 == 25) = true then (
 some (true, h18))
 else (
 none)))
 else (
 none))))))))))))))))))
abbrev ks121 : List SK := [.agg [.str, .ref], .agg [.str, (.int .i64), (.int .i64), .ref], .agg [(.int .i64), (.int .i64), (.int .i64), (.int .i64), (.int .i64), (.cplx .f64), .str, (.int .i64), (.int .i64), .ref, .ref]]
abbrev rs121 : List SK := [.one .bool]
def e121 (N : Nat) : Env := ⟨Tryz.prog, 182, inTab [3, 4, 5], inTab [], natTab [(3, 3), (4, 4), (5, 5), (7, 5), (11, 5), (16, 5), (20, 5), (25, 5), (30, 5), (34, 5), (39, 5), (43, 5), (47, 5), (51, 5), (58, 5), (62, 5), (69, 5), (73, 5), (75, 4), (81, 5), (85, 5), (92, 5), (96, 5), (106, 5), (110, 5), (114, 5), (119, 5), (123, 5), (130, 5), (135, 5), (139, 5), (141, 3), (148, 5), (152, 5), (154, 3), (160, 5), (165, 5), (169, 5), (173, 5), (178, 5)], inTab [], calTab [(177, .ro (mkFun ks177 rs177 (F177 N)))], altTab [(3489660994, [⟨.normal, [44, 66], [.one (.int .i64), .one .bool], [], []⟩]), (4831838297, [⟨.normal, [44, 89], [.one (.int .i64), .one .bool], [], []⟩])], loopTab [], natTab [], inTab [2, 4, 6, 9, 11, 14, 16, 19, 21, 23, 24, 25, 26, 27, 28, 29, 30, 31, 32]⟩
theorem fine121 (N : Nat) : Fine (e121 N) N 121 Tryz.f121 ks121 rs121 (F121 N) :=
  ⟨Tryz.func121, by kernel_rfl, by kernel_rfl, by kernel_rfl, loops_of trivial, by kernel_rfl, by kernel_rfl, fun _ => by kernel_rfl⟩
theorem good121 (N : Nat) : Go.L.Good (e121 N) := good_of ⟨gd177 N, trivial⟩
theorem gd121 (N : Nat) : CalOk Tryz.prog 121 (.ro (mkFun ks121 rs121 (F121 N))) := mkFun_ro (fine121 N) (good121 N) (by kernel_rfl)

/-! ### 122: carouselref06.Leads -/
def L122_0 (N : Nat) : Nat → V × Int × Int × Int × Int × Int × Int × (Nat × Nat) × ByteArray × Int × Int × V × V × H → Option (V × H)
 | 0, _ => none
 | n + 1, (x39, x40, x41, x42, x43, x44, x45, x46, x47, x48, x49, x50, x51, h52) =>
 (slen x51).bind fun n53 =>
 (if (decide (x40 < n53)) = true then (
 none)
 else (
 some (x39, h52)))
def F122 (N : Nat) : Int × Int × Int × Int × Int × (Nat × Nat) × ByteArray × Int × Int × V × V × H → Option (V × H)
 | (a0_0, a0_1, a0_2, a0_3, a0_4, a0_5, a0_6, a0_7, a0_8, a0_9, a0_10, h) =>
 (if (a0_0 == 25) = true then (
 some (true, h))
 else (
 some ((a0_0 == 26), h))).bind fun (b1, h2) =>
 (if b1 = true then (
 some (true, h2))
 else (
 some ((a0_0 == 27), h2))).bind fun (b3, h4) =>
 (if b3 = true then (
 some (true, h4))
 else (
 (if (a0_0 == 33) = true then (
 some ((a0_2 != (-1)), h4))
 else (
 some (false, h4))).bind fun (b7, h8) =>
 some (b7, h8))).bind fun (b5, h6) =>
 ((if b5 = true then (
 (happ h6 .nils 1 1 [(.int .i64 a0_1)]).bind fun (v9, h10) =>
 some (v9, a0_0, a0_1, a0_2, a0_3, a0_4, (a0_5.1, a0_5.2), a0_6, a0_7, a0_8, a0_9, a0_10, h10))
 else (
 some (.nils, a0_0, a0_1, a0_2, a0_3, a0_4, (a0_5.1, a0_5.2), a0_6, a0_7, a0_8, a0_9, a0_10, h6))) : Option (V × Int × Int × Int × Int × Int × (Nat × Nat) × ByteArray × Int × Int × V × V × H)).bind fun (x11, x12, x13, x14, x15, x16, x17, x18, x19, x20, x21, x22, h23) =>
 (L122_0 N N (x11, 0, x12, x13, x14, x15, x16, (x17.1, x17.2), x18, x19, x20, x21, x22, h23)).bind fun (x54, h55) =>
 some (x54, h55)
abbrev ks122 : List SK := [.agg [(.int .i64), (.int .i64), (.int .i64), (.int .i64), (.int .i64), (.cplx .f64), .str, (.int .i64), (.int .i64), .ref, .ref]]
abbrev rs122 : List SK := [.one .ref]
def e122 (N : Nat) : Env := ⟨Tryz.prog, 50, inTab [1, 31, 47], inTab [], natTab [(1, 1), (5, 1), (9, 1), (14, 1), (19, 1), (23, 1), (29, 1), (34, 1), (41, 1)], inTab [], calTab [], altTab [(196635, [⟨.normal, [1, 3], [.lp 1 0, .one .ref], [1], [.cells [(.int .i64), (.int .i64), (.int .i64), (.int .i64), (.int .i64), (.cplx .f64), .str, (.int .i64), (.int .i64), .ref, .ref]]⟩])], loopTab [(5, ⟨⟨.normal, [1, 3, 4], [.lp 1 0, .one .ref, .one (.int .i64)], [1], [.cells [(.int .i64), (.int .i64), (.int .i64), (.int .i64), (.int .i64), (.cplx .f64), .str, (.int .i64), (.int .i64), .ref, .ref]]⟩, [⟨(.exit 0), [3], [.one .ref], [], []⟩], L122_0 N⟩)], natTab [], inTab [6, 7]⟩
theorem l122_0 (N : Nat) : ∀ A, (e122 N).lp (lid (loopAt Tryz.f122 0)) = some A → LoopOk (e122 N) N (loopAt Tryz.f122 0) A :=
  loopOk_of (A := ⟨⟨.normal, [1, 3, 4], [.lp 1 0, .one .ref, .one (.int .i64)], [1], [.cells [(.int .i64), (.int .i64), (.int .i64), (.int .i64), (.int .i64), (.cplx .f64), .str, (.int .i64), (.int .i64), .ref, .ref]]⟩, [⟨(.exit 0), [3], [.one .ref], [], []⟩], L122_0 N⟩) (by kernel_rfl) (fun _ => rfl) (fun _ _ => by kernel_rfl)
theorem fine122 (N : Nat) : Fine (e122 N) N 122 Tryz.f122 ks122 rs122 (F122 N) :=
  ⟨Tryz.func122, by kernel_rfl, by kernel_rfl, by kernel_rfl, loops_of ⟨l122_0 N, trivial⟩, by kernel_rfl, by kernel_rfl, fun _ => by kernel_rfl⟩
theorem good122 (N : Nat) : Go.L.Good (e122 N) := good_of trivial
theorem gd122 (N : Nat) : CalOk Tryz.prog 122 (.full (mkFun ks122 rs122 (F122 N))) := mkFun_good (fine122 N) (good122 N)

/-! ### 180: carouselref06.Effect -/
def F180 (N : Nat) : ByteArray × V × Int × Int × Int × Int × Int × (Nat × Nat) × ByteArray × Int × Int × V × V × H → Option (Int × Int × Int × H)
 | (a0_0, a0_1, a1_0, a1_1, a1_2, a1_3, a1_4, a1_5, a1_6, a1_7, a1_8, a1_9, a1_10, h) =>
 ((if (a1_0 == 1) = true then (
 some (a1_0, (a1_0 == 1), h))
 else (
 (if (a1_0 == 4) = true then (
 some (a1_0, (a1_0 == 4), h))
 else (
 (if (a1_0 == 30) = true then (
 some (a1_0, (a1_0 == 30), h))
 else (
 some (a1_0, (a1_0 == 31), h))))))) : Option (Int × Bool × H)).bind fun (x1, x2, h3) =>
 (if x2 = true then (
 none)
 else (
 ((if (x1 == 2) = true then (
 some (x1, (x1 == 2), h3))
 else (
 (if (x1 == 5) = true then (
 some (x1, (x1 == 5), h3))
 else (
 (if (x1 == 26) = true then (
 some (x1, (x1 == 26), h3))
 else (
 (if (x1 == 27) = true then (
 some (x1, (x1 == 27), h3))
 else (
 (if (x1 == 41) = true then (
 some (x1, (x1 == 41), h3))
 else (
 some (x1, (x1 == 44), h3))))))))))) : Option (Int × Bool × H)).bind fun (x4, x5, h6) =>
 (if x5 = true then (
 none)
 else (
 ((if (x4 == 29) = true then (
 some (x4, (x4 == 29), h6))
 else (
 some (x4, (x4 == 45), h6))) : Option (Int × Bool × H)).bind fun (x7, x8, h9) =>
 (if x8 = true then (
 none)
 else (
 (if (x7 == 25) = true then (
 (if (x7 == 25) = true then (
 some (0, 0, 0, h9))
 else (
 none)))
 else (
 none))))))))
abbrev ks180 : List SK := [.agg [.str, .ref], .agg [(.int .i64), (.int .i64), (.int .i64), (.int .i64), (.int .i64), (.cplx .f64), .str, (.int .i64), (.int .i64), .ref, .ref]]
abbrev rs180 : List SK := [.one (.int .i64), .one (.int .i64), .one (.int .i64)]
def e180 (N : Nat) : Env := ⟨Tryz.prog, 110, inTab [2, 3], inTab [], natTab [(2, 2), (3, 3), (7, 3), (60, 3), (64, 3), (68, 3), (71, 3), (74, 3), (77, 3), (82, 3), (86, 3), (88, 2), (94, 2), (96, 3), (103, 2), (105, 3)], inTab [], calTab [], altTab [(805306377, [⟨.normal, [8, 9], [.one (.int .i64), .one .bool], [], []⟩]), (2147483662, [⟨.normal, [8, 14], [.one (.int .i64), .one .bool], [], []⟩]), (4026531861, [⟨.normal, [8, 21], [.one (.int .i64), .one .bool], [], []⟩])], loopTab [], natTab [], inTab [6, 13, 16, 18, 19, 21, 22, 23, 24, 25, 26, 27, 28, 29, 30, 31, 32, 33, 34, 35, 36, 37, 38, 39, 40, 41, 42, 43, 44, 45, 46, 47, 48, 49, 50, 51, 52, 53, 54, 55, 56, 57, 58, 59, 60, 61, 62]⟩
theorem fine180 (N : Nat) : Fine (e180 N) N 180 Tryz.f180 ks180 rs180 (F180 N) :=
  ⟨Tryz.func180, by kernel_rfl, by kernel_rfl, by kernel_rfl, loops_of trivial, by kernel_rfl, by kernel_rfl, fun _ => by kernel_rfl⟩
theorem good180 (N : Nat) : Go.L.Good (e180 N) := good_of trivial
theorem gd180 (N : Nat) : CalOk Tryz.prog 180 (.ro (mkFun ks180 rs180 (F180 N))) := mkFun_ro (fine180 N) (good180 N) (by kernel_rfl)

/-! ### 181: carouselref06.Goes -/
def F181 (N : Nat) : Int × Int × Int × Int × Int × (Nat × Nat) × ByteArray × Int × Int × V × V × Int × H → Option (V × H)
 | (a0_0, a0_1, a0_2, a0_3, a0_4, a0_5, a0_6, a0_7, a0_8, a0_9, a0_10, a1, h) =>
 (if (a0_0 != 25) = true then (
 some ((a0_0 != 27), h))
 else (
 some (false, h))).bind fun (b1, h2) =>
 (if b1 = true then (
 some ((a0_0 != 33), h2))
 else (
 some (false, h2))).bind fun (b3, h4) =>
 (if b3 = true then (
 some ((a0_0 != 29), h4))
 else (
 some (false, h4))).bind fun (b5, h6) =>
 (if b5 = true then (
 some ((a0_0 != 45), h6))
 else (
 some (false, h6))).bind fun (b7, h8) =>
 (if b7 = true then (
 none)
 else (
 (F122 N (a0_0, a0_1, a0_2, a0_3, a0_4, (a0_5.1, a0_5.2), a0_6, a0_7, a0_8, a0_9, a0_10, h8)).bind fun (x9, h10) =>
 (scells h10 x9 1).bind fun cs13 =>
 (happ h10 .nils 1 (snlen x9) cs13).bind fun (v11, h12) =>
 some (v11, h12)))
abbrev ks181 : List SK := [.agg [(.int .i64), (.int .i64), (.int .i64), (.int .i64), (.int .i64), (.cplx .f64), .str, (.int .i64), (.int .i64), .ref, .ref], .one (.int .i64)]
abbrev rs181 : List SK := [.one .ref]
def e181 (N : Nat) : Env := ⟨Tryz.prog, 38, inTab [2, 32], inTab [], natTab [(2, 2), (6, 2), (10, 2), (15, 2), (20, 2), (25, 2)], inTab [], calTab [(122, .full (mkFun ks122 rs122 (F122 N)))], altTab [], loopTab [], natTab [], inTab [3]⟩
theorem fine181 (N : Nat) : Fine (e181 N) N 181 Tryz.f181 ks181 rs181 (F181 N) :=
  ⟨Tryz.func181, by kernel_rfl, by kernel_rfl, by kernel_rfl, loops_of trivial, by kernel_rfl, by kernel_rfl, fun _ => by kernel_rfl⟩
theorem good181 (N : Nat) : Go.L.Good (e181 N) := good_of ⟨gd122 N, trivial⟩
theorem gd181 (N : Nat) : CalOk Tryz.prog 181 (.full (mkFun ks181 rs181 (F181 N))) := mkFun_good (fine181 N) (good181 N)

/-! ### 123: carouselref06.flow -/
def L123_0 (N : Nat) : Nat → Int × V × V × Int × ByteArray × V × ByteArray × Int × Int × V × H → Option (Int × V × V × ByteArray × V × ByteArray × Int × Int × V × H)
 | 0, _ => none
 | n + 1, (x15, x16, x17, x18, x19, x20, x21, x22, x23, x24, h25) =>
 (if (decide (x18 < x15)) = true then (
 none)
 else (
 some (x15, x16, x17, x19, x20, x21, x22, x23, x24, h25)))
def L123_2 (N : Nat) : Nat → Int × V × V × Int × ByteArray × V × ByteArray × Int × Int × V × H → Option (Int × V × V × Int × ByteArray × V × ByteArray × Int × Int × V × H)
 | 0, _ => none
 | n + 1, (x65, x66, x67, x68, x69, x70, x71, x72, x73, x74, h75) =>
 (if (decide (x68 < x65)) = true then (
 (sidx x66 x68 1).bind fun q78 =>
 (L.asInt .i64 (rd h75 q78 0)).bind fun x79 =>
 (if (decide (x79 < 0)) = true then (
 some (true, h75))
 else (
 (sidx x67 x68 1).bind fun q82 =>
 (L.asBool (rd h75 q82 0)).bind fun x83 =>
 some (x83, h75))).bind fun (b80, h81) =>
 some (b80, h81))
 else (
 some (false, h75))).bind fun (b76, h77) =>
 (if b76 = true then (
 L123_2 N n (x65, x66, x67, (IntKind.i64.wrap (x68 + 1)), x69, x70, x71, x72, x73, x74, h77))
 else (
 some (x65, x66, x67, x68, x69, x70, x71, x72, x73, x74, h77)))
def L123_3 (N : Nat) : Nat → Int × V × V × Int × V × Int × ByteArray × V × ByteArray × Int × Int × V × H → Option (Int × V × V × ByteArray × V × ByteArray × Int × Int × V × H)
 | 0, _ => none
 | n + 1, (x162, x163, x164, x165, x166, x167, x168, x169, x170, x171, x172, x173, h174) =>
 (slen x166).bind fun n175 =>
 (if (decide (x167 < n175)) = true then (
 (sidx x166 x167 1).bind fun q176 =>
 (L.asInt .i64 (rd h174 q176 0)).bind fun x177 =>
 (if (decide (x177 ≥ x162)) = true then (
 none)
 else (
 (sidx x166 x167 1).bind fun q178 =>
 (L.asInt .i64 (rd h174 q178 0)).bind fun x179 =>
 (sidx x163 x179 1).bind fun q180 =>
 (L.asInt .i64 (rd h174 q180 0)).bind fun x181 =>
 (if (decide (x181 ≥ 0)) = true then (
 (sidx x166 x167 1).bind fun q184 =>
 (L.asInt .i64 (rd h174 q184 0)).bind fun x185 =>
 (sidx x163 x185 1).bind fun q186 =>
 (L.asInt .i64 (rd h174 q186 0)).bind fun x187 =>
 some ((x187 != x165), h174))
 else (
 some (false, h174))).bind fun (b182, h183) =>
 (if b182 = true then (
 none)
 else (
 (sidx x166 x167 1).bind fun q188 =>
 (L.asInt .i64 (rd h183 q188 0)).bind fun x189 =>
 (sidx x163 x189 1).bind fun q190 =>
 (wr h183 q190 [(.int .i64 x165)]).bind fun h191 =>
 L123_3 N n (x162, x163, x164, x165, x166, (IntKind.i64.wrap (x167 + 1)), x168, x169, x170, x171, x172, x173, h191))))))
 else (
 some (x162, x163, x164, x168, x169, x170, x171, x172, x173, h174)))
def L123_1 (N : Nat) : Nat → Int × V × V × ByteArray × V × ByteArray × Int × Int × V × H → Option (V × Int × Int × H)
 | 0, _ => none
 | n + 1, (x202, x203, x204, x205, x206, x207, x208, x209, x210, h211) =>
 (L123_2 N N (x202, x203, x204, 0, x205, x206, x207, x208, x209, x210, h211)).bind fun (x212, x213, x214, x215, x216, x217, x218, x219, x220, x221, h222) =>
 (if (x215 == x212) = true then (
 some (x213, 0, 0, h222))
 else (
 (sidx x214 x215 1).bind fun q223 =>
 (wr h222 q223 [(.bool true)]).bind fun h224 =>
 (sidx x221 x215 11).bind fun q225 =>
 (L.asInt .i64 (rd h224 q225 0)).bind fun x226 =>
 (L.asInt .i64 (rd h224 q225 1)).bind fun x227 =>
 (L.asInt .i64 (rd h224 q225 2)).bind fun x228 =>
 (L.asInt .i64 (rd h224 q225 3)).bind fun x229 =>
 (L.asInt .i64 (rd h224 q225 4)).bind fun x230 =>
 (L.asCplx .f64 (rd h224 q225 5)).bind fun x231 =>
 (L.asStr (rd h224 q225 6)).bind fun x232 =>
 (L.asInt .i64 (rd h224 q225 7)).bind fun x233 =>
 (L.asInt .i64 (rd h224 q225 8)).bind fun x234 =>
 ((rd h224 q225 9)).bind fun x235 =>
 ((rd h224 q225 10)).bind fun x236 =>
 (F180 N (x216, x217, x226, x227, x228, x229, x230, (x231.1, x231.2), x232, x233, x234, x235, x236, h224)).bind fun (x237, x238, x239, _) =>
 (sidx x213 x215 1).bind fun q240 =>
 (L.asInt .i64 (rd h224 q240 0)).bind fun x241 =>
 (sidx x213 x215 1).bind fun q242 =>
 (L.asInt .i64 (rd h224 q242 0)).bind fun x243 =>
 (if (decide (x237 > x243)) = true then (
 some (true, h224))
 else (
 some ((decide ((IntKind.i64.wrap ((IntKind.i64.wrap (x241 - x237)) + x238)) > 256)), h224))).bind fun (b244, h245) =>
 (if b244 = true then (
 none)
 else (
 (sidx x221 x215 11).bind fun q246 =>
 (L.asInt .i64 (rd h245 q246 0)).bind fun x247 =>
 (L.asInt .i64 (rd h245 q246 1)).bind fun x248 =>
 (L.asInt .i64 (rd h245 q246 2)).bind fun x249 =>
 (L.asInt .i64 (rd h245 q246 3)).bind fun x250 =>
 (L.asInt .i64 (rd h245 q246 4)).bind fun x251 =>
 (L.asCplx .f64 (rd h245 q246 5)).bind fun x252 =>
 (L.asStr (rd h245 q246 6)).bind fun x253 =>
 (L.asInt .i64 (rd h245 q246 7)).bind fun x254 =>
 (L.asInt .i64 (rd h245 q246 8)).bind fun x255 =>
 ((rd h245 q246 9)).bind fun x256 =>
 ((rd h245 q246 10)).bind fun x257 =>
 (F181 N (x247, x248, x249, x250, x251, (x252.1, x252.2), x253, x254, x255, x256, x257, x215, h245)).bind fun (x258, h259) =>
 (L123_3 N N (x212, x213, x214, (IntKind.i64.wrap ((IntKind.i64.wrap (x241 - x237)) + x238)), x258, 0, x216, x217, x218, x219, x220, x221, h259)).bind fun (x260, x261, x262, x263, x264, x265, x266, x267, x268, h269) =>
 L123_1 N n (x260, x261, x262, x263, x264, x265, x266, x267, x268, h269)))))
def F123 (N : Nat) : ByteArray × V × ByteArray × Int × Int × V × H → Option (V × Int × Int × H)
 | (a0_0, a0_1, a1_0, a1_1, a1_2, a1_3, h) =>
 (slen a1_3).bind fun n1 =>
 (if 0 ≤ n1 then (if n1 ≤ n1 then (if n1 * ((1 : Nat) : Int) ≤ ((mostCells : Nat) : Int) then (
 (some (h ++ [O.cells 0 (repeatC (Int.toNat n1) [(.int .i64 0)])]) : Option H).bind fun h2 =>
 (if 0 ≤ n1 then (if n1 ≤ n1 then (if n1 * ((1 : Nat) : Int) ≤ ((mostCells : Nat) : Int) then (
 (some (h2 ++ [O.cells 0 (repeatC (Int.toNat n1) [(.bool false)])]) : Option H).bind fun h3 =>
 (L123_0 N N (n1, (.sl (h).length 0 0 (Int.toNat n1) 1 (some (Int.toNat n1))), (.sl (h2).length 0 0 (Int.toNat n1) 1 (some (Int.toNat n1))), 1, a0_0, a0_1, a1_0, a1_1, a1_2, a1_3, h3)).bind fun (x26, x27, x28, x29, x30, x31, x32, x33, x34, h35) =>
 (L123_1 N N (x26, x27, x28, x29, x30, x31, x32, x33, x34, h35)).bind fun (x270, x271, x272, h273) =>
 some (x270, x271, x272, h273)) else none) else none) else none)) else none) else none) else none)
abbrev ks123 : List SK := [.agg [.str, .ref], .agg [.str, (.int .i64), (.int .i64), .ref]]
abbrev rs123 : List SK := [.one .ref, .one (.int .i64), .one (.int .i64)]
def e123 (N : Nat) : Env := ⟨Tryz.prog, 138, inTab [2, 3], inTab [], natTab [(2, 2), (3, 3), (18, 3), (60, 3), (89, 3)], inTab [], calTab [(180, .ro (mkFun ks180 rs180 (F180 N))), (181, .full (mkFun ks181 rs181 (F181 N)))], altTab [], loopTab [(5, ⟨⟨.normal, [2, 3, 7, 8, 9, 10], [.lp 2 0, .lp 3 0, .one (.int .i64), .one .ref, .one .ref, .one (.int .i64)], [2, 3], [.cells [.str, .ref], .cells [.str, (.int .i64), (.int .i64), .ref]]⟩, [⟨(.exit 0), [2, 3, 7, 8, 9], [.lp 2 0, .lp 3 0, .one (.int .i64), .one .ref, .one .ref], [2, 3], [.cells [.str, .ref], .cells [.str, (.int .i64), (.int .i64), .ref]]⟩], L123_0 N⟩), (8, ⟨⟨.normal, [2, 3, 7, 8, 9], [.lp 2 0, .lp 3 0, .one (.int .i64), .one .ref, .one .ref], [2, 3], [.cells [.str, .ref], .cells [.str, (.int .i64), (.int .i64), .ref]]⟩, [⟨.ret, [4, 5, 6], [.one .ref, .one (.int .i64), .one (.int .i64)], [], []⟩], L123_1 N⟩), (9, ⟨⟨.normal, [2, 3, 7, 8, 9, 11], [.lp 2 0, .lp 3 0, .one (.int .i64), .one .ref, .one .ref, .one (.int .i64)], [2, 3], [.cells [.str, .ref], .cells [.str, (.int .i64), (.int .i64), .ref]]⟩, [⟨(.exit 4), [2, 3, 7, 8, 9, 11], [.lp 2 0, .lp 3 0, .one (.int .i64), .one .ref, .one .ref, .one (.int .i64)], [2, 3], [.cells [.str, .ref], .cells [.str, (.int .i64), (.int .i64), .ref]]⟩], L123_2 N⟩), (20, ⟨⟨.normal, [2, 3, 7, 8, 9, 15, 16, 17], [.lp 2 0, .lp 3 0, .one (.int .i64), .one .ref, .one .ref, .one (.int .i64), .one .ref, .one (.int .i64)], [2, 3], [.cells [.str, .ref], .cells [.str, (.int .i64), (.int .i64), .ref]]⟩, [⟨(.exit 6), [2, 3, 7, 8, 9], [.lp 2 0, .lp 3 0, .one (.int .i64), .one .ref, .one .ref], [2, 3], [.cells [.str, .ref], .cells [.str, (.int .i64), (.int .i64), .ref]]⟩], L123_3 N⟩)], natTab [], inTab [6, 7, 17, 23, 25]⟩
theorem l123_0 (N : Nat) : ∀ A, (e123 N).lp (lid (loopAt Tryz.f123 0)) = some A → LoopOk (e123 N) N (loopAt Tryz.f123 0) A :=
  loopOk_of (A := ⟨⟨.normal, [2, 3, 7, 8, 9, 10], [.lp 2 0, .lp 3 0, .one (.int .i64), .one .ref, .one .ref, .one (.int .i64)], [2, 3], [.cells [.str, .ref], .cells [.str, (.int .i64), (.int .i64), .ref]]⟩, [⟨(.exit 0), [2, 3, 7, 8, 9], [.lp 2 0, .lp 3 0, .one (.int .i64), .one .ref, .one .ref], [2, 3], [.cells [.str, .ref], .cells [.str, (.int .i64), (.int .i64), .ref]]⟩], L123_0 N⟩) (by kernel_rfl) (fun _ => rfl) (fun _ _ => by kernel_rfl)
theorem l123_1 (N : Nat) : ∀ A, (e123 N).lp (lid (loopAt Tryz.f123 1)) = some A → LoopOk (e123 N) N (loopAt Tryz.f123 1) A :=
  loopOk_of (A := ⟨⟨.normal, [2, 3, 7, 8, 9], [.lp 2 0, .lp 3 0, .one (.int .i64), .one .ref, .one .ref], [2, 3], [.cells [.str, .ref], .cells [.str, (.int .i64), (.int .i64), .ref]]⟩, [⟨.ret, [4, 5, 6], [.one .ref, .one (.int .i64), .one (.int .i64)], [], []⟩], L123_1 N⟩) (by kernel_rfl) (fun _ => rfl) (fun _ _ => by kernel_rfl)
theorem l123_2 (N : Nat) : ∀ A, (e123 N).lp (lid (loopAt Tryz.f123 2)) = some A → LoopOk (e123 N) N (loopAt Tryz.f123 2) A :=
  loopOk_of (A := ⟨⟨.normal, [2, 3, 7, 8, 9, 11], [.lp 2 0, .lp 3 0, .one (.int .i64), .one .ref, .one .ref, .one (.int .i64)], [2, 3], [.cells [.str, .ref], .cells [.str, (.int .i64), (.int .i64), .ref]]⟩, [⟨(.exit 4), [2, 3, 7, 8, 9, 11], [.lp 2 0, .lp 3 0, .one (.int .i64), .one .ref, .one .ref, .one (.int .i64)], [2, 3], [.cells [.str, .ref], .cells [.str, (.int .i64), (.int .i64), .ref]]⟩], L123_2 N⟩) (by kernel_rfl) (fun _ => rfl) (fun _ _ => by kernel_rfl)
theorem l123_3 (N : Nat) : ∀ A, (e123 N).lp (lid (loopAt Tryz.f123 3)) = some A → LoopOk (e123 N) N (loopAt Tryz.f123 3) A :=
  loopOk_of (A := ⟨⟨.normal, [2, 3, 7, 8, 9, 15, 16, 17], [.lp 2 0, .lp 3 0, .one (.int .i64), .one .ref, .one .ref, .one (.int .i64), .one .ref, .one (.int .i64)], [2, 3], [.cells [.str, .ref], .cells [.str, (.int .i64), (.int .i64), .ref]]⟩, [⟨(.exit 6), [2, 3, 7, 8, 9], [.lp 2 0, .lp 3 0, .one (.int .i64), .one .ref, .one .ref], [2, 3], [.cells [.str, .ref], .cells [.str, (.int .i64), (.int .i64), .ref]]⟩], L123_3 N⟩) (by kernel_rfl) (fun _ => rfl) (fun _ _ => by kernel_rfl)
theorem fine123 (N : Nat) : Fine (e123 N) N 123 Tryz.f123 ks123 rs123 (F123 N) :=
  ⟨Tryz.func123, by kernel_rfl, by kernel_rfl, by kernel_rfl, loops_of ⟨l123_0 N, ⟨l123_1 N, ⟨l123_2 N, ⟨l123_3 N, trivial⟩⟩⟩⟩, by kernel_rfl, by kernel_rfl, fun _ => by kernel_rfl⟩
theorem good123 (N : Nat) : Go.L.Good (e123 N) := good_of ⟨gd180 N, ⟨gd181 N, trivial⟩⟩
theorem gd123 (N : Nat) : CalOk Tryz.prog 123 (.full (mkFun ks123 rs123 (F123 N))) := mkFun_good (fine123 N) (good123 N)

/-! ### 68: carouselref06.Check -/
def L68_2 (N : Nat) : Nat → Int × Int × V × Int × ByteArray × V × ByteArray × Int × Int × V × H → Option (Int × Int × ByteArray × V × ByteArray × Int × Int × V × H)
 | 0, _ => none
 | n + 1, (x69, x70, x71, x72, x73, x74, x75, x76, x77, x78, h79) =>
 (slen x71).bind fun n80 =>
 (if (decide (x72 < n80)) = true then (
 (sidx x71 x72 1).bind fun q81 =>
 (L.asInt .i64 (rd h79 q81 0)).bind fun x82 =>
 (if (decide (x82 < 0)) = true then (
 some (true, h79))
 else (
 (sidx x71 x72 1).bind fun q85 =>
 (L.asInt .i64 (rd h79 q85 0)).bind fun x86 =>
 (slen x78).bind fun n87 =>
 some ((decide (x86 ≥ n87)), h79))).bind fun (b83, h84) =>
 (if b83 = true then (
 none)
 else (
 L68_2 N n (x69, x70, x71, (IntKind.i64.wrap (x72 + 1)), x73, x74, x75, x76, x77, x78, h84))))
 else (
 some (x69, x70, x73, x74, x75, x76, x77, x78, h79)))
def L68_1 (N : Nat) : Nat → Int × Int × ByteArray × V × ByteArray × Int × Int × V × H → Option (Int × ByteArray × V × H)
 | 0, _ => none
 | n + 1, (x97, x98, x99, x100, x101, x102, x103, x104, h105) =>
 (slen x104).bind fun n106 =>
 (if (decide (x98 < n106)) = true then (
 (sidx x104 x98 11).bind fun q107 =>
 (L.asInt .i64 (rd h105 q107 0)).bind fun x108 =>
 (L.asInt .i64 (rd h105 q107 1)).bind fun x109 =>
 (L.asInt .i64 (rd h105 q107 2)).bind fun x110 =>
 (L.asInt .i64 (rd h105 q107 3)).bind fun x111 =>
 (L.asInt .i64 (rd h105 q107 4)).bind fun x112 =>
 (L.asCplx .f64 (rd h105 q107 5)).bind fun x113 =>
 (L.asStr (rd h105 q107 6)).bind fun x114 =>
 (L.asInt .i64 (rd h105 q107 7)).bind fun x115 =>
 (L.asInt .i64 (rd h105 q107 8)).bind fun x116 =>
 ((rd h105 q107 9)).bind fun x117 =>
 ((rd h105 q107 10)).bind fun x118 =>
 (F121 N (x99, x100, x101, x102, x103, x104, x108, x109, x110, x111, x112, (x113.1, x113.2), x114, x115, x116, x117, x118, h105)).bind fun (x119, _) =>
 (if (!x119) = true then (
 none)
 else (
 (sidx x104 x98 11).bind fun q120 =>
 (L.asInt .i64 (rd h105 q120 0)).bind fun x121 =>
 (L.asInt .i64 (rd h105 q120 1)).bind fun x122 =>
 (L.asInt .i64 (rd h105 q120 2)).bind fun x123 =>
 (L.asInt .i64 (rd h105 q120 3)).bind fun x124 =>
 (L.asInt .i64 (rd h105 q120 4)).bind fun x125 =>
 (L.asCplx .f64 (rd h105 q120 5)).bind fun x126 =>
 (L.asStr (rd h105 q120 6)).bind fun x127 =>
 (L.asInt .i64 (rd h105 q120 7)).bind fun x128 =>
 (L.asInt .i64 (rd h105 q120 8)).bind fun x129 =>
 ((rd h105 q120 9)).bind fun x130 =>
 ((rd h105 q120 10)).bind fun x131 =>
 (F122 N (x121, x122, x123, x124, x125, (x126.1, x126.2), x127, x128, x129, x130, x131, h105)).bind fun (x132, h133) =>
 (L68_2 N N (x97, x98, x132, 0, x99, x100, x101, x102, x103, x104, h133)).bind fun (x134, x135, x136, x137, x138, x139, x140, x141, h142) =>
 L68_1 N n (x134, (IntKind.i64.wrap (x135 + 1)), x136, x137, x138, x139, x140, x141, h142))))
 else (
 some (x97, x99, x100, h105)))
def L68_0 (N : Nat) : Nat → Int × ByteArray × V × H → Option (ByteArray × V × H)
 | 0, _ => none
 | n + 1, (x147, x148, x149, h150) =>
 (slen x149).bind fun n151 =>
 (if (decide (x147 < n151)) = true then (
 (sidx x149 x147 4).bind fun q152 =>
 (L.asStr (rd h150 q152 0)).bind fun x153 =>
 (L.asInt .i64 (rd h150 q152 1)).bind fun x154 =>
 (L.asInt .i64 (rd h150 q152 2)).bind fun x155 =>
 ((rd h150 q152 3)).bind fun x156 =>
 (L68_1 N N (x147, 0, x148, x149, x153, x154, x155, x156, h150)).bind fun (x157, x158, x159, h160) =>
 L68_0 N n ((IntKind.i64.wrap (x157 + 1)), x158, x159, h160))
 else (
 some (x148, x149, h150)))
def L68_3 (N : Nat) : Nat → Int × ByteArray × V × H → Option (H)
 | 0, _ => none
 | n + 1, (x178, x179, x180, h181) =>
 (slen x180).bind fun n182 =>
 (if (decide (x178 < n182)) = true then (
 (sidx x180 x178 4).bind fun q183 =>
 (L.asStr (rd h181 q183 0)).bind fun x184 =>
 (L.asInt .i64 (rd h181 q183 1)).bind fun x185 =>
 (L.asInt .i64 (rd h181 q183 2)).bind fun x186 =>
 ((rd h181 q183 3)).bind fun x187 =>
 (F123 N (x179, x180, x184, x185, x186, x187, h181)).bind fun (x188, x189, x190, h191) =>
 (if (x189 != 0) = true then (
 none)
 else (
 L68_3 N n ((IntKind.i64.wrap (x178 + 1)), x179, x180, h191))))
 else (
 some h181))
def F68 (N : Nat) : ByteArray × V × H → Option (Int × Int × Int × H)
 | (a0_0, a0_1, h) =>
 (F120 N (a0_0, a0_1, h)).bind fun (x1, x2, _) =>
 (if (x1 != 0) = true then (
 none)
 else (
 (L68_0 N N (0, a0_0, a0_1, h)).bind fun (x161, x162, h163) =>
 (L68_3 N N (0, x161, x162, h163)).bind fun h192 =>
 some (0, 0, 0, h192)))
abbrev ks68 : List SK := [.agg [.str, .ref]]
abbrev rs68 : List SK := [.one (.int .i64), .one (.int .i64), .one (.int .i64)]
def e68 (N : Nat) : Env := ⟨Tryz.prog, 107, inTab [1, 8], inTab [], natTab [(1, 1), (8, 8), (26, 1), (32, 1), (38, 8), (46, 8), (55, 8), (77, 8), (85, 1), (93, 1)], inTab [], calTab [(120, .ro (mkFun ks120 rs120 (F120 N))), (121, .ro (mkFun ks121 rs121 (F121 N))), (122, .full (mkFun ks122 rs122 (F122 N))), (123, .full (mkFun ks123 rs123 (F123 N)))], altTab [], loopTab [(5, ⟨⟨.normal, [1, 7], [.lp 1 0, .one (.int .i64)], [1], [.cells [.str, .ref]]⟩, [⟨(.exit 0), [1], [.lp 1 0], [1], [.cells [.str, .ref]]⟩], L68_0 N⟩), (9, ⟨⟨.normal, [1, 7, 8, 9], [.lp 1 0, .one (.int .i64), .lp 8 0, .one (.int .i64)], [1, 8], [.cells [.str, .ref], .cells [.str, (.int .i64), (.int .i64), .ref]]⟩, [⟨(.exit 2), [1, 7], [.lp 1 0, .one (.int .i64)], [1], [.cells [.str, .ref]]⟩], L68_1 N⟩), (15, ⟨⟨.normal, [1, 7, 8, 9, 10, 11], [.lp 1 0, .one (.int .i64), .lp 8 0, .one (.int .i64), .one .ref, .one (.int .i64)], [1, 8], [.cells [.str, .ref], .cells [.str, (.int .i64), (.int .i64), .ref]]⟩, [⟨(.exit 4), [1, 7, 8, 9], [.lp 1 0, .one (.int .i64), .lp 8 0, .one (.int .i64)], [1, 8], [.cells [.str, .ref], .cells [.str, (.int .i64), (.int .i64), .ref]]⟩], L68_2 N⟩), (20, ⟨⟨.normal, [1, 12], [.lp 1 0, .one (.int .i64)], [1], [.cells [.str, .ref]]⟩, [⟨(.exit 6), [], [], [], []⟩], L68_3 N⟩)], natTab [], inTab [3, 12, 18, 24]⟩
theorem l68_0 (N : Nat) : ∀ A, (e68 N).lp (lid (loopAt Tryz.f68 0)) = some A → LoopOk (e68 N) N (loopAt Tryz.f68 0) A :=
  loopOk_of (A := ⟨⟨.normal, [1, 7], [.lp 1 0, .one (.int .i64)], [1], [.cells [.str, .ref]]⟩, [⟨(.exit 0), [1], [.lp 1 0], [1], [.cells [.str, .ref]]⟩], L68_0 N⟩) (by kernel_rfl) (fun _ => rfl) (fun _ _ => by kernel_rfl)
theorem l68_1 (N : Nat) : ∀ A, (e68 N).lp (lid (loopAt Tryz.f68 1)) = some A → LoopOk (e68 N) N (loopAt Tryz.f68 1) A :=
  loopOk_of (A := ⟨⟨.normal, [1, 7, 8, 9], [.lp 1 0, .one (.int .i64), .lp 8 0, .one (.int .i64)], [1, 8], [.cells [.str, .ref], .cells [.str, (.int .i64), (.int .i64), .ref]]⟩, [⟨(.exit 2), [1, 7], [.lp 1 0, .one (.int .i64)], [1], [.cells [.str, .ref]]⟩], L68_1 N⟩) (by kernel_rfl) (fun _ => rfl) (fun _ _ => by kernel_rfl)
theorem l68_2 (N : Nat) : ∀ A, (e68 N).lp (lid (loopAt Tryz.f68 2)) = some A → LoopOk (e68 N) N (loopAt Tryz.f68 2) A :=
  loopOk_of (A := ⟨⟨.normal, [1, 7, 8, 9, 10, 11], [.lp 1 0, .one (.int .i64), .lp 8 0, .one (.int .i64), .one .ref, .one (.int .i64)], [1, 8], [.cells [.str, .ref], .cells [.str, (.int .i64), (.int .i64), .ref]]⟩, [⟨(.exit 4), [1, 7, 8, 9], [.lp 1 0, .one (.int .i64), .lp 8 0, .one (.int .i64)], [1, 8], [.cells [.str, .ref], .cells [.str, (.int .i64), (.int .i64), .ref]]⟩], L68_2 N⟩) (by kernel_rfl) (fun _ => rfl) (fun _ _ => by kernel_rfl)
theorem l68_3 (N : Nat) : ∀ A, (e68 N).lp (lid (loopAt Tryz.f68 3)) = some A → LoopOk (e68 N) N (loopAt Tryz.f68 3) A :=
  loopOk_of (A := ⟨⟨.normal, [1, 12], [.lp 1 0, .one (.int .i64)], [1], [.cells [.str, .ref]]⟩, [⟨(.exit 6), [], [], [], []⟩], L68_3 N⟩) (by kernel_rfl) (fun _ => rfl) (fun _ _ => by kernel_rfl)
theorem fine68 (N : Nat) : Fine (e68 N) N 68 Tryz.f68 ks68 rs68 (F68 N) :=
  ⟨Tryz.func68, by kernel_rfl, by kernel_rfl, by kernel_rfl, loops_of ⟨l68_0 N, ⟨l68_1 N, ⟨l68_2 N, ⟨l68_3 N, trivial⟩⟩⟩⟩, by kernel_rfl, by kernel_rfl, fun _ => by kernel_rfl⟩
theorem good68 (N : Nat) : Go.L.Good (e68 N) := good_of ⟨gd120 N, ⟨gd121 N, ⟨gd122 N, ⟨gd123 N, trivial⟩⟩⟩⟩
theorem gd68 (N : Nat) : CalOk Tryz.prog 68 (.full (mkFun ks68 rs68 (F68 N))) := mkFun_good (fine68 N) (good68 N)

/-! ### 69: carouselref21.Node).done -/
def F69 (N : Nat) : V × List V × H → Option (H)
 | (a0, a1, h) =>
 (if (a1).length = 29 then (
 (nck a0).bind fun _ =>
 ((rd h (padd a0 52) 0)).bind fun x1 =>
 ((if 0 + 29 ≤ (a1).length then some (((a1).drop 0).take 29) else none) : Option (List V)).bind fun cs2 =>
 (if (cs2).length = 29 then (
 (if 0 + (cs2).length ≤ 29 then (
 (scells h (.rs 29 (chunks 29 1 (splice [(.int .i64 0), (.int .i64 0), (.int .i64 0), (.int .i64 0), (.int .i64 0), (.int .i64 0), (.int .i64 0), .nils, (.int .i64 0), (.bool false), .nils, .nils, (.int .i64 0), (.int .i64 0), (.int .i64 0), (.int .i64 0), (.int .i64 0), (.int .i64 0), (.int .i64 0), (.int .i64 0), (.cplx .f64 0 0), (.str (ByteArray.mk #[])), (.int .i64 0), (.int .i64 0), .nils, (.int .i64 0), (.int .i64 0), .nils, .nils] 0 cs2))) 29).bind fun cs5 =>
 (happ h x1 29 (snlen (.rs 29 (chunks 29 1 (splice [(.int .i64 0), (.int .i64 0), (.int .i64 0), (.int .i64 0), (.int .i64 0), (.int .i64 0), (.int .i64 0), .nils, (.int .i64 0), (.bool false), .nils, .nils, (.int .i64 0), (.int .i64 0), (.int .i64 0), (.int .i64 0), (.int .i64 0), (.int .i64 0), (.int .i64 0), (.int .i64 0), (.cplx .f64 0 0), (.str (ByteArray.mk #[])), (.int .i64 0), (.int .i64 0), .nils, (.int .i64 0), (.int .i64 0), .nils, .nils] 0 cs2)))) cs5).bind fun (v3, h4) =>
 (nck a0).bind fun _ =>
 (ck1 v3).bind fun _ =>
 (wr h4 (padd a0 52) [v3]).bind fun h6 =>
 some h6) else none)) else none)) else none)
abbrev ks69 : List SK := [.one .ref, .blk]
abbrev rs69 : List SK := []
def e69 (N : Nat) : Env := ⟨Tryz.prog, 14, inTab [3, 10], inTab [], natTab [(3, 3)], inTab [], calTab [], altTab [], loopTab [], natTab [], inTab []⟩
theorem fine69 (N : Nat) : Fine (e69 N) N 69 Tryz.f69 ks69 rs69 (F69 N) :=
  ⟨Tryz.func69, by kernel_rfl, by kernel_rfl, by kernel_rfl, loops_of trivial, by kernel_rfl, by kernel_rfl, fun _ => by kernel_rfl⟩
theorem good69 (N : Nat) : Go.L.Good (e69 N) := good_of trivial
theorem gd69 (N : Nat) : CalOk Tryz.prog 69 (.full (mkFun ks69 rs69 (F69 N))) := mkFun_good (fine69 N) (good69 N)

/-! ### 37: carouselref21.Node).Load -/
def F37 (N : Nat) : V × ByteArray × V × H → Option (Int × Int × H)
 | (a0, a1_0, a1_1, h) =>
 (F67 N (a0, h)).bind fun (x1, _) =>
 (if x1 = true then (
 none)
 else (
 (F68 N (a1_0, a1_1, h)).bind fun (x2, x3, x4, h5) =>
 (if (x2 != 0) = true then (
 none)
 else (
 (nck a0).bind fun _ =>
 ((rd h5 (padd a0 1) 0)).bind fun x6 =>
 (slen x6).bind fun n7 =>
 (if (decide (n7 ≥ 32)) = true then (
 none)
 else (
 (nck a0).bind fun _ =>
 ((rd h5 (padd a0 1) 0)).bind fun x8 =>
 (happ h5 x8 2 1 [(.str a1_0), a1_1]).bind fun (v9, h10) =>
 (nck a0).bind fun _ =>
 (ck1 v9).bind fun _ =>
 (wr h10 (padd a0 1) [v9]).bind fun h11 =>
 (nck a0).bind fun _ =>
 ((rd h11 (padd a0 1) 0)).bind fun x12 =>
 (slen x12).bind fun n13 =>
 (some (h11 ++ [O.cells 0 [(.str a1_0), a1_1]]) : Option H).bind fun h14 =>
 (ck1 (.sl (h11).length 0 0 1 2 (some 1))).bind fun _ =>
 (F69 N (a0, [(.int .i64 1), (.int .i64 0), (.int .i64 0), (.int .i64 (IntKind.i64.wrap (n13 - 1))), (.int .i64 0), (.int .i64 0), (.int .i64 0), .nils, (.int .i64 0), (.bool false), .nils, .nils, (.int .i64 0), (.int .i64 0), (.int .i64 0), (.int .i64 0), (.int .i64 0), (.int .i64 0), (.int .i64 0), (.int .i64 0), (.cplx .f64 0 0), (.str (ByteArray.mk #[])), (.int .i64 0), (.int .i64 0), .nils, (.int .i64 0), (.int .i64 0), .nils, (.sl (h11).length 0 0 1 2 (some 1))], h14)).bind fun h15 =>
 (nck a0).bind fun _ =>
 ((rd h15 (padd a0 1) 0)).bind fun x16 =>
 (slen x16).bind fun n17 =>
 some ((IntKind.i64.wrap (n17 - 1)), 0, h15)))))))
abbrev ks37 : List SK := [.one .ref, .agg [.str, .ref]]
abbrev rs37 : List SK := [.one (.int .i64), .one (.int .i64)]
def e37 (N : Nat) : Env := ⟨Tryz.prog, 53, inTab [3, 32], inTab [], natTab [(3, 3)], inTab [], calTab [(67, .ro (mkFun ks67 rs67 (F67 N))), (68, .full (mkFun ks68 rs68 (F68 N))), (69, .full (mkFun ks69 rs69 (F69 N)))], altTab [], loopTab [], natTab [], inTab [2, 5, 7]⟩
theorem fine37 (N : Nat) : Fine (e37 N) N 37 Tryz.f37 ks37 rs37 (F37 N) :=
  ⟨Tryz.func37, by kernel_rfl, by kernel_rfl, by kernel_rfl, loops_of trivial, by kernel_rfl, by kernel_rfl, fun _ => by kernel_rfl⟩
theorem good37 (N : Nat) : Go.L.Good (e37 N) := good_of ⟨gd67 N, ⟨gd68 N, ⟨gd69 N, trivial⟩⟩⟩
theorem gd37 (N : Nat) : CalOk Tryz.prog 37 (.full (mkFun ks37 rs37 (F37 N))) := mkFun_good (fine37 N) (good37 N)
theorem gl37 (N : Nat) : CalOk Tryz.prog 37 (.full (mkFun ks37 rs37 (locF false ks37 rs37 (F37 N)))) := loc_full (gd37 N)

/-! ### 70: carouselref17.Mod -/
def F70 (N : Nat) : Int × Int × H → Option (Int × Int × H)
 | (a0, a1, h) =>
 (if (decide (a1 < 1)) = true then (
 none)
 else (
 (if a1 = 0 then none else (
 (if (decide ((Int.tmod a0 a1) < 0)) = true then (
 none)
 else (
 some ((Int.tmod a0 a1), 0, h)))))))
abbrev ks70 : List SK := [.one (.int .i64), .one (.int .i64)]
abbrev rs70 : List SK := [.one (.int .i64), .one (.int .i64)]
def e70 (N : Nat) : Env := ⟨Tryz.prog, 18, inTab [], inTab [], natTab [], inTab [], calTab [], altTab [], loopTab [], natTab [], inTab [2, 5]⟩
theorem fine70 (N : Nat) : Fine (e70 N) N 70 Tryz.f70 ks70 rs70 (F70 N) :=
  ⟨Tryz.func70, by kernel_rfl, by kernel_rfl, by kernel_rfl, loops_of trivial, by kernel_rfl, by kernel_rfl, fun _ => by kernel_rfl⟩
theorem good70 (N : Nat) : Go.L.Good (e70 N) := good_of trivial
theorem gd70 : CalOk Tryz.prog 70 (.pure (mkP ks70 rs70 (F70 100))) := mkP_good (fine70 100) (good70 100) (by kernel_rfl) (by kernel_rfl)

/-! ### 182: carouselref10.entered -/
def L182_0 (N : Nat) : Nat → Int × Int × Int × V × Int × Int × Int × V × Int × H → Option (Int × Int × V × Int × Int × Int × V × Int × H)
 | 0, _ => none
 | n + 1, (x15, x16, x17, x18, x19, x20, x21, x22, x23, h24) =>
 (slen x22).bind fun n25 =>
 (if (decide (n25 < x15)) = true then (
 none)
 else (
 some (x16, x17, x18, x19, x20, x21, x22, x23, h24)))
def F182 (N : Nat) : Int × Int × V × Int × H → Option (Int × Int × V × Int × H)
 | (a0, a1, a2, a3, h) =>
 (scells h a2 7).bind fun cs3 =>
 (happ h .nils 7 (snlen a2) cs3).bind fun (v1, h2) =>
 (ck1 v1).bind fun _ =>
 (L182_0 N N (a1, 0, 0, .nils, 0, a0, 0, v1, a3, h2)).bind fun (x26, x27, x28, x29, x30, x31, x32, x33, h34) =>
 some (x30, x31, x32, x33, h34)
abbrev ks182 : List SK := [.one (.int .i64), .one (.int .i64), .one .ref, .one (.int .i64)]
abbrev rs182 : List SK := [.agg [(.int .i64), (.int .i64), .ref, (.int .i64)]]
def e182 (N : Nat) : Env := ⟨Tryz.prog, 30, inTab [8, 9, 26], inTab [], natTab [(8, 8), (9, 9), (13, 9), (17, 9), (18, 9), (23, 9), (28, 9)], inTab [], calTab [], altTab [], loopTab [(3, ⟨⟨.normal, [1, 8, 9], [.one (.int .i64), .lp 8 0, .lp 9 0], [8, 9], [.cells [(.int .i64), (.int .i64), .ref, (.int .i64)], .cells [(.int .i64), (.int .i64), .ref, (.int .i64)]]⟩, [⟨(.exit 0), [8, 9], [.lp 8 0, .lp 9 0], [8, 9], [.cells [(.int .i64), (.int .i64), .ref, (.int .i64)], .cells [(.int .i64), (.int .i64), .ref, (.int .i64)]]⟩], L182_0 N⟩)], natTab [], inTab [4]⟩
theorem l182_0 (N : Nat) : ∀ A, (e182 N).lp (lid (loopAt Tryz.f182 0)) = some A → LoopOk (e182 N) N (loopAt Tryz.f182 0) A :=
  loopOk_of (A := ⟨⟨.normal, [1, 8, 9], [.one (.int .i64), .lp 8 0, .lp 9 0], [8, 9], [.cells [(.int .i64), (.int .i64), .ref, (.int .i64)], .cells [(.int .i64), (.int .i64), .ref, (.int .i64)]]⟩, [⟨(.exit 0), [8, 9], [.lp 8 0, .lp 9 0], [8, 9], [.cells [(.int .i64), (.int .i64), .ref, (.int .i64)], .cells [(.int .i64), (.int .i64), .ref, (.int .i64)]]⟩], L182_0 N⟩) (by kernel_rfl) (fun _ => rfl) (fun _ _ => by kernel_rfl)
theorem fine182 (N : Nat) : Fine (e182 N) N 182 Tryz.f182 ks182 rs182 (F182 N) :=
  ⟨Tryz.func182, by kernel_rfl, by kernel_rfl, by kernel_rfl, loops_of ⟨l182_0 N, trivial⟩, by kernel_rfl, by kernel_rfl, fun _ => by kernel_rfl⟩
theorem good182 (N : Nat) : Go.L.Good (e182 N) := good_of trivial
theorem gd182 (N : Nat) : CalOk Tryz.prog 182 (.full (mkFun ks182 rs182 (F182 N))) := mkFun_good (fine182 N) (good182 N)

/-! ### 124: carouselref10.Begin -/
def L124_0 (N : Nat) : Nat → Int × V × Int × ByteArray × V × V × V × V × V × H → Option (Int × V × ByteArray × V × V × V × V × V × H)
 | 0, _ => none
 | n + 1, (x22, x23, x24, x25, x26, x27, x28, x29, x30, h31) =>
 (slen x23).bind fun n32 =>
 (if (decide (x24 < n32)) = true then (
 none)
 else (
 some (x22, x23, x25, x26, x27, x28, x29, x30, h31)))
def F124 (N : Nat) : ByteArray × V × Int × V × H → Option (V × V × Int × H)
 | (a0_0, a0_1, a1, a2, h) =>
 (F68 N (a0_0, a0_1, h)).bind fun (x1, x2, x3, h4) =>
 (if (x1 != 0) = true then (
 none)
 else (
 (if (decide (a1 < 0)) = true then (
 some (true, h4))
 else (
 (slen a0_1).bind fun n7 =>
 some ((decide (a1 ≥ n7)), h4))).bind fun (b5, h6) =>
 (if b5 = true then (
 none)
 else (
 (slen a2).bind fun n8 =>
 (sidx a0_1 a1 4).bind fun q9 =>
 (L.asInt .i64 (rd h6 (padd q9 1) 0)).bind fun x10 =>
 (if (n8 != x10) = true then (
 none)
 else (
 (L124_0 N N (a1, a2, 0, a0_0, a0_1, .nils, .nils, .nils, .nils, h6)).bind fun (x33, x34, x35, x36, x37, x38, x39, x40, h41) =>
 (sidx x36 x33 4).bind fun q42 =>
 (L.asInt .i64 (rd h41 (padd q42 2) 0)).bind fun x43 =>
 (F182 N (x33, x43, x34, 0, h41)).bind fun (x44, x45, x46, x47, h48) =>
 (happ h48 x39 4 1 [(.int .i64 x44), (.int .i64 x45), x46, (.int .i64 x47)]).bind fun (v49, h50) =>
 (ck1 v49).bind fun _ =>
 some (v49, x40, 0, h50)))))))
abbrev ks124 : List SK := [.agg [.str, .ref], .one (.int .i64), .one .ref]
abbrev rs124 : List SK := [.agg [.ref, .ref], .one (.int .i64)]
def e124 (N : Nat) : Env := ⟨Tryz.prog, 74, inTab [3, 6, 8, 70], inTab [], natTab [(3, 3), (6, 6), (8, 8), (28, 3), (36, 3), (59, 8), (62, 3), (72, 8)], inTab [], calTab [(68, .full (mkFun ks68 rs68 (F68 N))), (182, .full (mkFun ks182 rs182 (F182 N)))], altTab [], loopTab [(10, ⟨⟨.normal, [1, 2, 3, 6, 8, 12], [.one (.int .i64), .one .ref, .lp 3 0, .lp 6 0, .lp 8 0, .one (.int .i64)], [3, 6, 8], [.cells [.str, .ref], .cells [.ref, .ref], .cells [.ref, .ref]]⟩, [⟨(.exit 0), [1, 2, 3, 6, 8], [.one (.int .i64), .one .ref, .lp 3 0, .lp 6 0, .lp 8 0], [3, 6, 8], [.cells [.str, .ref], .cells [.ref, .ref], .cells [.ref, .ref]]⟩], L124_0 N⟩)], natTab [], inTab [4, 6, 8, 11, 12, 13, 14]⟩
theorem l124_0 (N : Nat) : ∀ A, (e124 N).lp (lid (loopAt Tryz.f124 0)) = some A → LoopOk (e124 N) N (loopAt Tryz.f124 0) A :=
  loopOk_of (A := ⟨⟨.normal, [1, 2, 3, 6, 8, 12], [.one (.int .i64), .one .ref, .lp 3 0, .lp 6 0, .lp 8 0, .one (.int .i64)], [3, 6, 8], [.cells [.str, .ref], .cells [.ref, .ref], .cells [.ref, .ref]]⟩, [⟨(.exit 0), [1, 2, 3, 6, 8], [.one (.int .i64), .one .ref, .lp 3 0, .lp 6 0, .lp 8 0], [3, 6, 8], [.cells [.str, .ref], .cells [.ref, .ref], .cells [.ref, .ref]]⟩], L124_0 N⟩) (by kernel_rfl) (fun _ => rfl) (fun _ _ => by kernel_rfl)
theorem fine124 (N : Nat) : Fine (e124 N) N 124 Tryz.f124 ks124 rs124 (F124 N) :=
  ⟨Tryz.func124, by kernel_rfl, by kernel_rfl, by kernel_rfl, loops_of ⟨l124_0 N, trivial⟩, by kernel_rfl, by kernel_rfl, fun _ => by kernel_rfl⟩
theorem good124 (N : Nat) : Go.L.Good (e124 N) := good_of ⟨gd68 N, ⟨gd182 N, trivial⟩⟩
theorem gd124 (N : Nat) : CalOk Tryz.prog 124 (.full (mkFun ks124 rs124 (F124 N))) := mkFun_good (fine124 N) (good124 N)

/-! ### 183: carouselref14.copied -/
def F183 (N : Nat) : Int × V × V × V × H → Option (Int × V × V × V × H)
 | (a0_0, a0_1, a0_2, a0_3, h) =>
 (scells h a0_1 1).bind fun cs3 =>
 (happ h .nils 1 (snlen a0_1) cs3).bind fun (v1, h2) =>
 (ck1 v1).bind fun _ =>
 (scells h2 a0_2 1).bind fun cs6 =>
 (happ h2 .nils 1 (snlen a0_2) cs6).bind fun (v4, h5) =>
 (ck1 v4).bind fun _ =>
 (scells h5 a0_3 1).bind fun cs9 =>
 (happ h5 .nils 1 (snlen a0_3) cs9).bind fun (v7, h8) =>
 (ck1 v7).bind fun _ =>
 some (a0_0, v1, v4, v7, h8)
abbrev ks183 : List SK := [.agg [(.int .i64), .ref, .ref, .ref]]
abbrev rs183 : List SK := [.agg [(.int .i64), .ref, .ref, .ref]]
def e183 (N : Nat) : Env := ⟨Tryz.prog, 26, inTab [1, 2, 3], inTab [], natTab [(1, 1), (2, 2), (3, 3), (4, 1), (7, 3), (9, 1), (12, 3), (13, 3), (15, 1), (18, 3), (19, 3), (21, 1), (24, 3)], inTab [], calTab [], altTab [], loopTab [], natTab [], inTab []⟩
theorem fine183 (N : Nat) : Fine (e183 N) N 183 Tryz.f183 ks183 rs183 (F183 N) :=
  ⟨Tryz.func183, by kernel_rfl, by kernel_rfl, by kernel_rfl, loops_of trivial, by kernel_rfl, by kernel_rfl, fun _ => by kernel_rfl⟩
theorem good183 (N : Nat) : Go.L.Good (e183 N) := good_of trivial
theorem gd183 (N : Nat) : CalOk Tryz.prog 183 (.full (mkFun ks183 rs183 (F183 N))) := mkFun_good (fine183 N) (good183 N)

/-! ### 125: carouselref14.Add -/
def L125_0 (N : Nat) : Nat → Int × Int × V × V × V × Int × V × V × V × Int × Int × H → Option ((H) ⊕ (Int × Int × V × V × V × Int × Int × H))
 | 0, _ => none
 | n + 1, (x32, x33, x34, x35, x36, x37, x38, x39, x40, x41, x42, h43) =>
 (if (decide (x32 < x33)) = true then (
 (sidx x35 x32 1).bind fun q44 =>
 (L.asBool (rd h43 q44 0)).bind fun x45 =>
 (if (!x45) = true then (
 (sidx x34 x32 1).bind fun q48 =>
 (L.asInt .i64 (rd h43 q48 0)).bind fun x49 =>
 some ((decide (x49 < 4611686018427387903)), h43))
 else (
 some (false, h43))).bind fun (b46, h47) =>
 (if b46 = true then (
 (F183 N (x33, x34, x35, x36, h47)).bind fun (x50, x51, x52, x53, h54) =>
 (sidx x52 x32 1).bind fun q55 =>
 (wr h54 q55 [(.bool true)]).bind fun h56 =>
 (sidx x51 x32 1).bind fun q57 =>
 (L.asInt .i64 (rd h56 q57 0)).bind fun x58 =>
 (sidx x51 x32 1).bind fun q59 =>
 (wr h56 q59 [(.int .i64 (IntKind.i64.wrap (x58 + 1)))]).bind fun h60 =>
 (sidx x51 x32 1).bind fun q61 =>
 (L.asInt .i64 (rd h60 q61 0)).bind fun x62 =>
 some (.inr (0, x50, x51, x52, x53, x32, x62, h60)))
 else (
 L125_0 N n ((IntKind.i64.wrap (x32 + 1)), x33, x34, x35, x36, x37, x38, x39, x40, x41, x42, h47))))
 else (
 some (.inl h43)))
def F125 (N : Nat) : Int × V × V × V × H → Option (Int × V × V × V × Int × Int × Int × H)
 | (a0_0, a0_1, a0_2, a0_3, h) =>
 (L125_0 N N (0, a0_0, a0_1, a0_2, a0_3, 0, .nils, .nils, .nils, 0, 0, h)).bind fun o63 => match o63 with
 | .inl h64 => (
 none)
 | .inr (x65, x66, x67, x68, x69, x70, x71, h72) => (
 some (x66, x67, x68, x69, x70, x71, x65, h72))
abbrev ks125 : List SK := [.agg [(.int .i64), .ref, .ref, .ref]]
abbrev rs125 : List SK := [.agg [(.int .i64), .ref, .ref, .ref], .agg [(.int .i64), (.int .i64)], .one (.int .i64)]
def e125 (N : Nat) : Env := ⟨Tryz.prog, 54, inTab [1, 2, 3, 5, 7], inTab [], natTab [(1, 1), (2, 2), (3, 3), (5, 5), (7, 7), (9, 1), (14, 1), (21, 1), (30, 7), (34, 7), (37, 7), (46, 7)], inTab [], calTab [(183, .full (mkFun ks183 rs183 (F183 N)))], altTab [], loopTab [(3, ⟨⟨.normal, [1, 2, 3, 6], [.lp 1 0, .lp 2 0, .lp 3 0, .one (.int .i64)], [1, 2, 3], [.cells [(.int .i64), .ref, .ref, .ref], .cells [(.int .i64), .ref, .ref, .ref], .cells [(.int .i64), (.int .i64)]]⟩, [⟨(.exit 0), [], [], [], []⟩, ⟨.ret, [2, 3, 4], [.lp 2 0, .lp 3 0, .one (.int .i64)], [2, 3], [.cells [(.int .i64), .ref, .ref, .ref], .cells [(.int .i64), (.int .i64)]]⟩], L125_0 N⟩)], natTab [], inTab [10]⟩
theorem l125_0 (N : Nat) : ∀ A, (e125 N).lp (lid (loopAt Tryz.f125 0)) = some A → LoopOk (e125 N) N (loopAt Tryz.f125 0) A :=
  loopOk_of (A := ⟨⟨.normal, [1, 2, 3, 6], [.lp 1 0, .lp 2 0, .lp 3 0, .one (.int .i64)], [1, 2, 3], [.cells [(.int .i64), .ref, .ref, .ref], .cells [(.int .i64), .ref, .ref, .ref], .cells [(.int .i64), (.int .i64)]]⟩, [⟨(.exit 0), [], [], [], []⟩, ⟨.ret, [2, 3, 4], [.lp 2 0, .lp 3 0, .one (.int .i64)], [2, 3], [.cells [(.int .i64), .ref, .ref, .ref], .cells [(.int .i64), (.int .i64)]]⟩], L125_0 N⟩) (by kernel_rfl) (fun _ => rfl) (fun _ _ => by kernel_rfl)
theorem fine125 (N : Nat) : Fine (e125 N) N 125 Tryz.f125 ks125 rs125 (F125 N) :=
  ⟨Tryz.func125, by kernel_rfl, by kernel_rfl, by kernel_rfl, loops_of ⟨l125_0 N, trivial⟩, by kernel_rfl, by kernel_rfl, fun _ => by kernel_rfl⟩
theorem good125 (N : Nat) : Go.L.Good (e125 N) := good_of ⟨gd183 N, trivial⟩
theorem gd125 (N : Nat) : CalOk Tryz.prog 125 (.full (mkFun ks125 rs125 (F125 N))) := mkFun_good (fine125 N) (good125 N)

/-! ### 184: carouselref17.there -/
def F184 (N : Nat) : V × Int × Int × H → Option (Bool × H)
 | (a0_0, a1, a2, h) =>
 (if (decide (a1 ≥ 0)) = true then (
 (slen a0_0).bind fun n3 =>
 some ((decide (a1 < n3)), h))
 else (
 some (false, h))).bind fun (b1, h2) =>
 (if b1 = true then (
 some ((decide (a2 ≥ 0)), h2))
 else (
 some (false, h2))).bind fun (b4, h5) =>
 (if b4 = true then (
 some ((decide (a2 < 3)), h5))
 else (
 some (false, h5))).bind fun (b6, h7) =>
 some (b6, h7)
abbrev ks184 : List SK := [.agg [.ref], .one (.int .i64), .one (.int .i64)]
abbrev rs184 : List SK := [.one .bool]
def e184 (N : Nat) : Env := ⟨Tryz.prog, 24, inTab [3], inTab [], natTab [(3, 3), (11, 3)], inTab [], calTab [], altTab [], loopTab [], natTab [], inTab []⟩
theorem fine184 (N : Nat) : Fine (e184 N) N 184 Tryz.f184 ks184 rs184 (F184 N) :=
  ⟨Tryz.func184, by kernel_rfl, by kernel_rfl, by kernel_rfl, loops_of trivial, by kernel_rfl, by kernel_rfl, fun _ => by kernel_rfl⟩
theorem good184 (N : Nat) : Go.L.Good (e184 N) := good_of trivial
theorem gd184 (N : Nat) : CalOk Tryz.prog 184 (.ro (mkFun ks184 rs184 (F184 N))) := mkFun_ro (fine184 N) (good184 N) (by kernel_rfl)

/-! ### 185: carouselref17.with -/
def F185 (N : Nat) : V × Int × Int × Int × H → Option (V × H)
 | (a0_0, a1, a2, a3, h) =>
 (scells h a0_0 3).bind fun cs3 =>
 (happ h .nils 3 (snlen a0_0) cs3).bind fun (v1, h2) =>
 (ck1 v1).bind fun _ =>
 (sidx v1 a1 3).bind fun q4 =>
 (aidx q4 a2 3 1).bind fun q5 =>
 (L.asInt .i64 (rd h2 q5 0)).bind fun x6 =>
 (sidx v1 a1 3).bind fun q7 =>
 (aidx q7 a2 3 1).bind fun q8 =>
 (wr h2 q8 [(.int .i64 (IntKind.i64.wrap (x6 + a3)))]).bind fun h9 =>
 some (v1, h9)
abbrev ks185 : List SK := [.agg [.ref], .one (.int .i64), .one (.int .i64), .one (.int .i64)]
abbrev rs185 : List SK := [.agg [.ref]]
def e185 (N : Nat) : Env := ⟨Tryz.prog, 32, inTab [4, 8, 9], inTab [], natTab [(4, 4), (8, 8), (9, 9), (10, 9), (12, 4), (15, 9), (16, 9), (20, 9)], inTab [], calTab [], altTab [], loopTab [], natTab [], inTab []⟩
theorem fine185 (N : Nat) : Fine (e185 N) N 185 Tryz.f185 ks185 rs185 (F185 N) :=
  ⟨Tryz.func185, by kernel_rfl, by kernel_rfl, by kernel_rfl, loops_of trivial, by kernel_rfl, by kernel_rfl, fun _ => by kernel_rfl⟩
theorem good185 (N : Nat) : Go.L.Good (e185 N) := good_of trivial
theorem gd185 (N : Nat) : CalOk Tryz.prog 185 (.full (mkFun ks185 rs185 (F185 N))) := mkFun_good (fine185 N) (good185 N)

/-! ### 126: carouselref17.Take -/
def F126 (N : Nat) : V × Int × Int × H → Option (V × Int × H)
 | (a0_0, a1, a2, h) =>
 (F184 N (a0_0, a1, a2, h)).bind fun (x1, _) =>
 (if (!x1) = true then (
 none)
 else (
 (sidx a0_0 a1 3).bind fun q2 =>
 (aidx q2 a2 3 1).bind fun q3 =>
 (L.asInt .i64 (rd h q3 0)).bind fun x4 =>
 (if (decide (x4 ≥ 64)) = true then (
 none)
 else (
 (F185 N (a0_0, a1, a2, 1, h)).bind fun (x5, h6) =>
 some (x5, 0, h6)))))
abbrev ks126 : List SK := [.agg [.ref], .one (.int .i64), .one (.int .i64)]
abbrev rs126 : List SK := [.agg [.ref], .one (.int .i64)]
def e126 (N : Nat) : Env := ⟨Tryz.prog, 27, inTab [3, 6], inTab [], natTab [(3, 3), (6, 6), (14, 3)], inTab [], calTab [(184, .ro (mkFun ks184 rs184 (F184 N))), (185, .full (mkFun ks185 rs185 (F185 N)))], altTab [], loopTab [], natTab [], inTab [2, 4]⟩
theorem fine126 (N : Nat) : Fine (e126 N) N 126 Tryz.f126 ks126 rs126 (F126 N) :=
  ⟨Tryz.func126, by kernel_rfl, by kernel_rfl, by kernel_rfl, loops_of trivial, by kernel_rfl, by kernel_rfl, fun _ => by kernel_rfl⟩
theorem good126 (N : Nat) : Go.L.Good (e126 N) := good_of ⟨gd184 N, ⟨gd185 N, trivial⟩⟩
theorem gd126 (N : Nat) : CalOk Tryz.prog 126 (.full (mkFun ks126 rs126 (F126 N))) := mkFun_good (fine126 N) (good126 N)

/-! ### 128: carouselref12.New -/
def F128 (N : Nat) : H → Option (List V × H)
 | h =>
 some ([.nils, .nils, (.int .i64 0), (.int .i64 0)], h)
abbrev ks128 : List SK := []
abbrev rs128 : List SK := [.blk]
def e128 (N : Nat) : Env := ⟨Tryz.prog, 3, inTab [0, 1], inTab [], natTab [(0, 0), (1, 1)], inTab [], calTab [], altTab [], loopTab [], natTab [], inTab []⟩
theorem fine128 (N : Nat) : Fine (e128 N) N 128 Tryz.f128 ks128 rs128 (F128 N) :=
  ⟨Tryz.func128, by kernel_rfl, by kernel_rfl, by kernel_rfl, loops_of trivial, by kernel_rfl, by kernel_rfl, fun _ => by kernel_rfl⟩
theorem good128 (N : Nat) : Go.L.Good (e128 N) := good_of trivial
theorem gd128 : CalOk Tryz.prog 128 (.pure (mkP ks128 rs128 (scalF ks128 rs128 (F128 100)))) := scal_pure (fine128 100) (good128 100)

/-! ### 127: carouselref21.Node).put -/
def L127_0 (N : Nat) : Nat → V × V × Bool × Int × List V × H → Option (V × V × Bool × List V × H)
 | 0, _ => none
 | n + 1, (x21, x22, x23, x24, cs25, h26) =>
 (nck x21).bind fun _ =>
 ((rd h26 (padd x21 13) 0)).bind fun x27 =>
 (slen x27).bind fun n28 =>
 (if (decide (x24 < n28)) = true then (
 (if (!x23) = true then (
 (L.asInt .i64 cs25[0]?).bind fun x31 =>
 (nck x21).bind fun _ =>
 ((rd h26 (padd x21 13) 0)).bind fun x32 =>
 (sidx x32 x24 16).bind fun q33 =>
 (L.asInt .i64 (rd h26 (padd (padd q33 0) 0) 0)).bind fun x34 =>
 some ((decide (x31 < x34)), h26))
 else (
 some (false, h26))).bind fun (b29, h30) =>
 (if b29 = true then (
 none)
 else (
 (nck x21).bind fun _ =>
 ((rd h30 (padd x21 13) 0)).bind fun x35 =>
 (sidx x35 x24 16).bind fun q36 =>
 (rdN h30 q36 16).bind fun cs37 =>
 (if (cs37).length = 16 then (
 (if 0 + (cs37).length ≤ 16 then (
 (scells h30 (.rs 16 (chunks 16 1 (splice [(.int .i64 0), (.int .i64 0), (.int .i64 0), (.int .i64 0), (.int .i64 0), .nils, .nils, .nils, .nils, (.int .i64 0), (.int .i64 0), (.int .i64 0), (.bool false), (.bool false), (.int .i64 0), (.int .i64 0)] 0 cs37))) 16).bind fun cs40 =>
 (happ h30 x22 16 (snlen (.rs 16 (chunks 16 1 (splice [(.int .i64 0), (.int .i64 0), (.int .i64 0), (.int .i64 0), (.int .i64 0), .nils, .nils, .nils, .nils, (.int .i64 0), (.int .i64 0), (.int .i64 0), (.bool false), (.bool false), (.int .i64 0), (.int .i64 0)] 0 cs37)))) cs40).bind fun (v38, h39) =>
 L127_0 N n (x21, v38, x23, (IntKind.i64.wrap (x24 + 1)), cs25, h39)) else none)) else none))))
 else (
 some (x21, x22, x23, cs25, h26)))
def F127 (N : Nat) : V × List V × H → Option (H)
 | (a0, a1, h) =>
 (if (a1).length = 16 then (
 (L127_0 N N (a0, .nils, false, 0, a1, h)).bind fun (x41, x42, x43, cs44, h45) =>
 ((if (!x43) = true then (
 ((if 0 + 16 ≤ (cs44).length then some (((cs44).drop 0).take 16) else none) : Option (List V)).bind fun cs46 =>
 (if (cs46).length = 16 then (
 (if 0 + (cs46).length ≤ 16 then (
 (scells h45 (.rs 16 (chunks 16 1 (splice [(.int .i64 0), (.int .i64 0), (.int .i64 0), (.int .i64 0), (.int .i64 0), .nils, .nils, .nils, .nils, (.int .i64 0), (.int .i64 0), (.int .i64 0), (.bool false), (.bool false), (.int .i64 0), (.int .i64 0)] 0 cs46))) 16).bind fun cs49 =>
 (happ h45 x42 16 (snlen (.rs 16 (chunks 16 1 (splice [(.int .i64 0), (.int .i64 0), (.int .i64 0), (.int .i64 0), (.int .i64 0), .nils, .nils, .nils, .nils, (.int .i64 0), (.int .i64 0), (.int .i64 0), (.bool false), (.bool false), (.int .i64 0), (.int .i64 0)] 0 cs46)))) cs49).bind fun (v47, h48) =>
 some (x41, v47, h48)) else none)) else none))
 else (
 some (x41, x42, h45))) : Option (V × V × H)).bind fun (x50, x51, h52) =>
 (nck x50).bind fun _ =>
 (ck1 x51).bind fun _ =>
 (wr h52 (padd x50 13) [x51]).bind fun h53 =>
 some h53) else none)
abbrev ks127 : List SK := [.one .ref, .blk]
abbrev rs127 : List SK := []
def e127 (N : Nat) : Env := ⟨Tryz.prog, 57, inTab [3, 35, 45, 51], inTab [], natTab [(3, 3), (19, 3), (20, 3)], inTab [], calTab [], altTab [(720944, [⟨.normal, [0, 4], [.one .ref, .one .ref], [], []⟩])], loopTab [(4, ⟨⟨.normal, [0, 3, 4, 5, 6], [.one .ref, .lp 3 0, .one .ref, .one .bool, .one (.int .i64)], [3], [.blk]⟩, [⟨(.exit 0), [0, 3, 4, 5], [.one .ref, .lp 3 0, .one .ref, .one .bool], [3], [.blk]⟩], L127_0 N⟩)], natTab [], inTab [7, 8]⟩
theorem l127_0 (N : Nat) : ∀ A, (e127 N).lp (lid (loopAt Tryz.f127 0)) = some A → LoopOk (e127 N) N (loopAt Tryz.f127 0) A :=
  loopOk_of (A := ⟨⟨.normal, [0, 3, 4, 5, 6], [.one .ref, .lp 3 0, .one .ref, .one .bool, .one (.int .i64)], [3], [.blk]⟩, [⟨(.exit 0), [0, 3, 4, 5], [.one .ref, .lp 3 0, .one .ref, .one .bool], [3], [.blk]⟩], L127_0 N⟩) (by kernel_rfl) (fun _ => rfl) (fun _ _ => by kernel_rfl)
theorem fine127 (N : Nat) : Fine (e127 N) N 127 Tryz.f127 ks127 rs127 (F127 N) :=
  ⟨Tryz.func127, by kernel_rfl, by kernel_rfl, by kernel_rfl, loops_of ⟨l127_0 N, trivial⟩, by kernel_rfl, by kernel_rfl, fun _ => by kernel_rfl⟩
theorem good127 (N : Nat) : Go.L.Good (e127 N) := good_of trivial
theorem gd127 (N : Nat) : CalOk Tryz.prog 127 (.full (mkFun ks127 rs127 (F127 N))) := mkFun_good (fine127 N) (good127 N)

/-! ### 130: carouselref21.Node).find -/
def L130_0 (N : Nat) : Nat → V × Int × Int × Int × H → Option ((H) ⊕ (Int × H))
 | 0, _ => none
 | n + 1, (x12, x13, x14, x15, h16) =>
 (nck x12).bind fun _ =>
 ((rd h16 (padd x12 13) 0)).bind fun x17 =>
 (slen x17).bind fun n18 =>
 (if (decide (x13 < n18)) = true then (
 (nck x12).bind fun _ =>
 ((rd h16 (padd x12 13) 0)).bind fun x19 =>
 (sidx x19 x13 16).bind fun q20 =>
 (L.asInt .i64 (rd h16 (padd q20 0) 0)).bind fun x21 =>
 (L.asInt .i64 (rd h16 (padd q20 0) 1)).bind fun x22 =>
 (if ((x21 == x14) && ((x22 == x15) && true)) = true then (
 some (.inr (x13, h16)))
 else (
 L130_0 N n (x12, (IntKind.i64.wrap (x13 + 1)), x14, x15, h16))))
 else (
 some (.inl h16)))
def F130 (N : Nat) : V × Int × Int × H → Option (Int × H)
 | (a0, a1_0, a1_1, h) =>
 (L130_0 N N (a0, 0, a1_0, a1_1, h)).bind fun o23 => match o23 with
 | .inl h24 => (
 none)
 | .inr (x25, h26) => (
 some (x25, h26))
abbrev ks130 : List SK := [.one .ref, .agg [(.int .i64), (.int .i64)]]
abbrev rs130 : List SK := [.one (.int .i64)]
def e130 (N : Nat) : Env := ⟨Tryz.prog, 26, inTab [3], inTab [], natTab [(3, 3)], inTab [], calTab [], altTab [], loopTab [(2, ⟨⟨.normal, [0, 3, 5], [.one .ref, .lp 3 0, .one (.int .i64)], [3], [.cells [(.int .i64), (.int .i64)]]⟩, [⟨(.exit 0), [], [], [], []⟩, ⟨.ret, [4], [.one (.int .i64)], [], []⟩], L130_0 N⟩)], natTab [], inTab [6]⟩
theorem l130_0 (N : Nat) : ∀ A, (e130 N).lp (lid (loopAt Tryz.f130 0)) = some A → LoopOk (e130 N) N (loopAt Tryz.f130 0) A :=
  loopOk_of (A := ⟨⟨.normal, [0, 3, 5], [.one .ref, .lp 3 0, .one (.int .i64)], [3], [.cells [(.int .i64), (.int .i64)]]⟩, [⟨(.exit 0), [], [], [], []⟩, ⟨.ret, [4], [.one (.int .i64)], [], []⟩], L130_0 N⟩) (by kernel_rfl) (fun _ => rfl) (fun _ _ => by kernel_rfl)
theorem fine130 (N : Nat) : Fine (e130 N) N 130 Tryz.f130 ks130 rs130 (F130 N) :=
  ⟨Tryz.func130, by kernel_rfl, by kernel_rfl, by kernel_rfl, loops_of ⟨l130_0 N, trivial⟩, by kernel_rfl, by kernel_rfl, fun _ => by kernel_rfl⟩
theorem good130 (N : Nat) : Go.L.Good (e130 N) := good_of trivial
theorem gd130 (N : Nat) : CalOk Tryz.prog 130 (.ro (mkFun ks130 rs130 (F130 N))) := mkFun_ro (fine130 N) (good130 N) (by kernel_rfl)

/-! ### 239: carouselref18.class -/
def F239 (N : Nat) : Int × H → Option (Bool × H)
 | (a0, h) =>
 (if (decide (a0 ≥ 0)) = true then (
 some ((decide (a0 < 3)), h))
 else (
 some (false, h))).bind fun (b1, h2) =>
 some (b1, h2)
abbrev ks239 : List SK := [.one (.int .i64)]
abbrev rs239 : List SK := [.one .bool]
def e239 (N : Nat) : Env := ⟨Tryz.prog, 9, inTab [], inTab [], natTab [], inTab [], calTab [], altTab [], loopTab [], natTab [], inTab []⟩
theorem fine239 (N : Nat) : Fine (e239 N) N 239 Tryz.f239 ks239 rs239 (F239 N) :=
  ⟨Tryz.func239, by kernel_rfl, by kernel_rfl, by kernel_rfl, loops_of trivial, by kernel_rfl, by kernel_rfl, fun _ => by kernel_rfl⟩
theorem good239 (N : Nat) : Go.L.Good (e239 N) := good_of trivial
theorem gd239 : CalOk Tryz.prog 239 (.pure (mkP ks239 rs239 (F239 100))) := mkP_good (fine239 100) (good239 100) (by kernel_rfl) (by kernel_rfl)

/-! ### 312: carouselref18.Find -/
def L312_1 (N : Nat) : Nat → Int × Int × List V × Int × Int × H → Option (Int × List V × Int × Int × H)
 | 0, _ => none
 | n + 1, (x18, x19, cs20, x21, x22, h23) =>
 (if 0 ≤ x18 then (if x18 < 3 then (
 (cs20[((2 + Int.toNat x18 * 1) + 0)]?).bind fun x24 =>
 (slen x24).bind fun n25 =>
 (if (decide (x19 < n25)) = true then (
 (if 0 ≤ x18 then (if x18 < 3 then (
 (cs20[((2 + Int.toNat x18 * 1) + 0)]?).bind fun x26 =>
 (sidx x26 x19 3).bind fun q27 =>
 (L.asInt .i64 (rd h23 (padd q27 0) 0)).bind fun x28 =>
 (L.asInt .i64 (rd h23 (padd q27 0) 1)).bind fun x29 =>
 (if ((x28 == x21) && ((x29 == x22) && true)) = true then (
 none)
 else (
 L312_1 N n (x18, (IntKind.i64.wrap (x19 + 1)), cs20, x21, x22, h23)))) else none) else none))
 else (
 some (x18, cs20, x21, x22, h23)))) else none) else none)
def L312_0 (N : Nat) : Nat → Int × List V × Int × Int × H → Option (H)
 | 0, _ => none
 | n + 1, (x35, cs36, x37, x38, h39) =>
 (if (decide (x35 < 3)) = true then (
 (L312_1 N N (x35, 0, cs36, x37, x38, h39)).bind fun (x40, cs41, x42, x43, h44) =>
 L312_0 N n ((IntKind.i64.wrap (x40 + 1)), cs41, x42, x43, h44))
 else (
 some h39))
def F312 (N : Nat) : List V × Int × Int × H → Option (Int × Int × Int × H)
 | (a0, a1_0, a1_1, h) =>
 (if (a0).length = 5 then (
 (L312_0 N N (0, a0, a1_0, a1_1, h)).bind fun h45 =>
 some (0, 0, 3, h45)) else none)
abbrev ks312 : List SK := [.blk, .agg [(.int .i64), (.int .i64)]]
abbrev rs312 : List SK := [.one (.int .i64), .one (.int .i64), .one (.int .i64)]
def e312 (N : Nat) : Env := ⟨Tryz.prog, 34, inTab [2, 3], inTab [], natTab [(2, 2), (3, 3), (15, 2), (16, 2), (23, 2), (24, 2)], inTab [], calTab [], altTab [], loopTab [(2, ⟨⟨.normal, [2, 3, 7], [.lp 2 0, .lp 3 0, .one (.int .i64)], [2, 3], [.blk, .cells [(.int .i64), (.int .i64)]]⟩, [⟨(.exit 0), [], [], [], []⟩], L312_0 N⟩), (5, ⟨⟨.normal, [2, 3, 7, 8], [.lp 2 0, .lp 3 0, .one (.int .i64), .one (.int .i64)], [2, 3], [.blk, .cells [(.int .i64), (.int .i64)]]⟩, [⟨(.exit 2), [2, 3, 7], [.lp 2 0, .lp 3 0, .one (.int .i64)], [2, 3], [.blk, .cells [(.int .i64), (.int .i64)]]⟩], L312_1 N⟩)], natTab [], inTab [8]⟩
theorem l312_0 (N : Nat) : ∀ A, (e312 N).lp (lid (loopAt Tryz.f312 0)) = some A → LoopOk (e312 N) N (loopAt Tryz.f312 0) A :=
  loopOk_of (A := ⟨⟨.normal, [2, 3, 7], [.lp 2 0, .lp 3 0, .one (.int .i64)], [2, 3], [.blk, .cells [(.int .i64), (.int .i64)]]⟩, [⟨(.exit 0), [], [], [], []⟩], L312_0 N⟩) (by kernel_rfl) (fun _ => rfl) (fun _ _ => by kernel_rfl)
theorem l312_1 (N : Nat) : ∀ A, (e312 N).lp (lid (loopAt Tryz.f312 1)) = some A → LoopOk (e312 N) N (loopAt Tryz.f312 1) A :=
  loopOk_of (A := ⟨⟨.normal, [2, 3, 7, 8], [.lp 2 0, .lp 3 0, .one (.int .i64), .one (.int .i64)], [2, 3], [.blk, .cells [(.int .i64), (.int .i64)]]⟩, [⟨(.exit 2), [2, 3, 7], [.lp 2 0, .lp 3 0, .one (.int .i64)], [2, 3], [.blk, .cells [(.int .i64), (.int .i64)]]⟩], L312_1 N⟩) (by kernel_rfl) (fun _ => rfl) (fun _ _ => by kernel_rfl)
theorem fine312 (N : Nat) : Fine (e312 N) N 312 Tryz.f312 ks312 rs312 (F312 N) :=
  ⟨Tryz.func312, by kernel_rfl, by kernel_rfl, by kernel_rfl, loops_of ⟨l312_0 N, ⟨l312_1 N, trivial⟩⟩, by kernel_rfl, by kernel_rfl, fun _ => by kernel_rfl⟩
theorem good312 (N : Nat) : Go.L.Good (e312 N) := good_of trivial
theorem gd312 (N : Nat) : CalOk Tryz.prog 312 (.ro (mkFun ks312 rs312 (F312 N))) := mkFun_ro (fine312 N) (good312 N) (by kernel_rfl)


end
end Go.Proofs.YtkhnngghmlpbeaaGreat
