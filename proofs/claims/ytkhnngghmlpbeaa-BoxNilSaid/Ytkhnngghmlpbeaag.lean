/- The functions that the laws reach, as plain ones (printed by gen.py). -/
import Derived.Test.YtkhnngghmlpbeaaL39
import Derived.Test.YtkhnngghmlpbeaaChecked
import Derived.KernelRfl
set_option linter.unusedVariables false
namespace Go.Proofs.Ytkhnngghmlpbeaa
open Go.L

/-! ### 38: box.Box).given -/
noncomputable def F38 (N : Nat) : V × H → Option (Bool × H)
  | (a0, h) =>
    (isNil a0).bind fun b1 =>
    (if (!b1) = true then (
    (nck a0).bind fun _ =>
    (L.asBool (rd h (padd a0 0) 0)).bind fun x4 =>
    some (x4, h))
    else (
    some (false, h))).bind fun (b2, h3) =>
    some (b2, h3)
abbrev ks38 : List SK := [.one .ref]
abbrev rs38 : List SK := [.one .bool]
noncomputable def e38 (N : Nat) : Env := ⟨Try.prog, 11, inTab [], inTab [], natTab [], inTab [], calTab [], altTab [], loopTab [], natTab []⟩
theorem fine38 (N : Nat) : Fine (e38 N) N 38 Try.f38 ks38 rs38 (F38 N) :=
  ⟨Try.func38, by kernel_rfl, by kernel_rfl, by kernel_rfl, loops_of trivial, by kernel_rfl, by kernel_rfl, fun _ => by kernel_rfl⟩
theorem good38 (N : Nat) : Go.L.Good (e38 N) := good_of trivial
theorem gd38 (N : Nat) : CalOk Try.prog 38 (.ro (mkFun ks38 rs38 (F38 N))) := mkFun_ro (fine38 N) (good38 N) (by kernel_rfl)

/-! ### 9: box.Box).Reset -/
noncomputable def F9 (N : Nat) : V × H → Option (H)
  | (a0, h) =>
    (F38 N (a0, h)).bind fun (x1, _) =>
    (if x1 = true then (
    (nck a0).bind fun _ =>
    (wr h (padd a0 3) [(.int .i64 0), (.int .i64 0)]).bind fun h2 =>
    some h2)
    else (
    some h))
abbrev ks9 : List SK := [.one .ref]
abbrev rs9 : List SK := []
noncomputable def e9 (N : Nat) : Env := ⟨Try.prog, 8, inTab [], inTab [], natTab [], inTab [], calTab [(38, .ro (mkFun ks38 rs38 (F38 N)))], altTab [], loopTab [], natTab []⟩
theorem fine9 (N : Nat) : Fine (e9 N) N 9 Try.f9 ks9 rs9 (F9 N) :=
  ⟨Try.func9, by kernel_rfl, by kernel_rfl, by kernel_rfl, loops_of trivial, by kernel_rfl, by kernel_rfl, fun _ => by kernel_rfl⟩
theorem good9 (N : Nat) : Go.L.Good (e9 N) := good_of ⟨gd38 N, trivial⟩
theorem gd9 (N : Nat) : CalOk Try.prog 9 (.full (mkFun ks9 rs9 (F9 N))) := mkFun_good (fine9 N) (good9 N)

/-! ### 74: pattern.zero -/
noncomputable def F74 (N : Nat) : Int × Int × (Nat × Nat) × ByteArray × Int × Int × V × H → Option (Bool × H)
  | (a0_0, a0_1, a0_2, a0_3, a0_4, a0_5, a0_6, h) =>
    (if (a0_0 == 0) = true then (
    some ((a0_1 == 0), h))
    else (
    some (false, h))).bind fun (b1, h2) =>
    (if b1 = true then (
    some ((Op.floatEq .f64 a0_2.1 0 && Op.floatEq .f64 a0_2.2 0), h2))
    else (
    some (false, h2))).bind fun (b3, h4) =>
    (if b3 = true then (
    some (((a0_3).toList == ((ByteArray.mk #[])).toList), h4))
    else (
    some (false, h4))).bind fun (b5, h6) =>
    (if b5 = true then (
    some (((a0_4 == 0) && ((a0_5 == 0) && true)), h6))
    else (
    some (false, h6))).bind fun (b7, h8) =>
    (if b7 = true then (
    (slen a0_6).bind fun n11 =>
    some ((n11 == 0), h8))
    else (
    some (false, h8))).bind fun (b9, h10) =>
    some (b9, h10)
abbrev ks74 : List SK := [.agg [(.int .i64), (.int .i64), (.cplx .f64), .str, (.int .i64), (.int .i64), .ref]]
abbrev rs74 : List SK := [.one .bool]
noncomputable def e74 (N : Nat) : Env := ⟨Try.prog, 33, inTab [1], inTab [], natTab [(1, 1), (3, 1), (7, 1), (12, 1), (17, 1), (22, 1), (28, 1)], inTab [], calTab [], altTab [], loopTab [], natTab []⟩
theorem fine74 (N : Nat) : Fine (e74 N) N 74 Try.f74 ks74 rs74 (F74 N) :=
  ⟨Try.func74, by kernel_rfl, by kernel_rfl, by kernel_rfl, loops_of trivial, by kernel_rfl, by kernel_rfl, fun _ => by kernel_rfl⟩
theorem good74 (N : Nat) : Go.L.Good (e74 N) := good_of trivial
theorem gd74 (N : Nat) : CalOk Try.prog 74 (.ro (mkFun ks74 rs74 (F74 N))) := mkFun_ro (fine74 N) (good74 N) (by kernel_rfl)

/-! ### 78: slices.Index[[]int,int] -/
noncomputable def L78_0 (N : Nat) : Nat → V × Int × Int × Int × H → Option ((H) ⊕ (Int × H))
  | 0, _ => none
  | n + 1, (x9, x10, x11, x12, h13) =>
    (if (decide (x12 < x11)) = true then (
    (sidx x9 x12 1).bind fun q14 =>
    (L.asInt .i64 (rd h13 q14 0)).bind fun x15 =>
    (if (x10 == x15) = true then (
    some (.inr (x12, h13)))
    else (
    L78_0 N n (x9, x10, x11, (IntKind.i64.wrap (x12 + 1)), h13))))
    else (
    some (.inl h13)))
noncomputable def F78 (N : Nat) : V × Int × H → Option (Int × H)
  | (a0, a1, h) =>
    (slen a0).bind fun n1 =>
    (L78_0 N N (a0, a1, n1, 0, h)).bind fun o16 => match o16 with
    | .inl h17 => (
    some ((-1), h17))
    | .inr (x18, h19) => (
    some (x18, h19))
abbrev ks78 : List SK := [.one .ref, .one (.int .i64)]
abbrev rs78 : List SK := [.one (.int .i64)]
noncomputable def e78 (N : Nat) : Env := ⟨Try.prog, 19, inTab [], inTab [], natTab [], inTab [], calTab [], altTab [], loopTab [(2, ⟨⟨.normal, [0, 1, 7, 8], [.one .ref, .one (.int .i64), .one (.int .i64), .one (.int .i64)], [], []⟩, [⟨(.exit 0), [], [], [], []⟩, ⟨.ret, [4], [.one (.int .i64)], [], []⟩], L78_0 N⟩)], natTab []⟩
theorem l78_0 (N : Nat) : ∀ A, (e78 N).lp (lid (loopAt Try.f78 0)) = some A → LoopOk (e78 N) N (loopAt Try.f78 0) A :=
  loopOk_of (A := ⟨⟨.normal, [0, 1, 7, 8], [.one .ref, .one (.int .i64), .one (.int .i64), .one (.int .i64)], [], []⟩, [⟨(.exit 0), [], [], [], []⟩, ⟨.ret, [4], [.one (.int .i64)], [], []⟩], L78_0 N⟩) (by kernel_rfl) (fun _ => rfl) (fun _ _ => by kernel_rfl)
theorem fine78 (N : Nat) : Fine (e78 N) N 78 Try.f78 ks78 rs78 (F78 N) :=
  ⟨Try.func78, by kernel_rfl, by kernel_rfl, by kernel_rfl, loops_of ⟨l78_0 N, trivial⟩, by kernel_rfl, by kernel_rfl, fun _ => by kernel_rfl⟩
theorem good78 (N : Nat) : Go.L.Good (e78 N) := good_of trivial
theorem gd78 (N : Nat) : CalOk Try.prog 78 (.ro (mkFun ks78 rs78 (F78 N))) := mkFun_ro (fine78 N) (good78 N) (by kernel_rfl)

/-! ### 75: slices.Contains[[]int,int] -/
noncomputable def F75 (N : Nat) : V × Int × H → Option (Bool × H)
  | (a0, a1, h) =>
    (F78 N (a0, a1, h)).bind fun (x1, _) =>
    some ((decide (x1 ≥ 0)), h)
abbrev ks75 : List SK := [.one .ref, .one (.int .i64)]
abbrev rs75 : List SK := [.one .bool]
noncomputable def e75 (N : Nat) : Env := ⟨Try.prog, 9, inTab [], inTab [], natTab [], inTab [], calTab [(78, .ro (mkFun ks78 rs78 (F78 N)))], altTab [], loopTab [], natTab []⟩
theorem fine75 (N : Nat) : Fine (e75 N) N 75 Try.f75 ks75 rs75 (F75 N) :=
  ⟨Try.func75, by kernel_rfl, by kernel_rfl, by kernel_rfl, loops_of trivial, by kernel_rfl, by kernel_rfl, fun _ => by kernel_rfl⟩
theorem good75 (N : Nat) : Go.L.Good (e75 N) := good_of ⟨gd78 N, trivial⟩
theorem gd75 (N : Nat) : CalOk Try.prog 75 (.ro (mkFun ks75 rs75 (F75 N))) := mkFun_ro (fine75 N) (good75 N) (by kernel_rfl)

/-! ### 79: term.own$1 -/
noncomputable def F79 (N : Nat) : Bool × Bool × Bool × Bool × Bool × V × H → Option (Bool × H)
  | (a0, a1, a2, a3, a4, a5, h) =>
    (if a0 = true then (
    some (true, h))
    else (
    (nck a5).bind fun _ =>
    (L.asInt .i64 (rd h (padd a5 1) 0)).bind fun x3 =>
    some ((x3 == 0), h))).bind fun (b1, h2) =>
    (if b1 = true then (
    (if a1 = true then (
    some (true, h2))
    else (
    (nck a5).bind fun _ =>
    (L.asCplx .f64 (rd h2 (padd a5 2) 0)).bind fun x8 =>
    some ((Op.floatEq .f64 x8.1 0 && Op.floatEq .f64 x8.2 0), h2))).bind fun (b6, h7) =>
    some (b6, h7))
    else (
    some (false, h2))).bind fun (b4, h5) =>
    (if b4 = true then (
    (if a2 = true then (
    some (true, h5))
    else (
    (nck a5).bind fun _ =>
    (L.asStr (rd h5 (padd a5 3) 0)).bind fun x13 =>
    some (((x13).toList == ((ByteArray.mk #[])).toList), h5))).bind fun (b11, h12) =>
    some (b11, h12))
    else (
    some (false, h5))).bind fun (b9, h10) =>
    (if b9 = true then (
    (if a3 = true then (
    some (true, h10))
    else (
    (nck a5).bind fun _ =>
    (L.asInt .i64 (rd h10 (padd a5 4) 0)).bind fun x18 =>
    (L.asInt .i64 (rd h10 (padd a5 4) 1)).bind fun x19 =>
    some (((x18 == 0) && ((x19 == 0) && true)), h10))).bind fun (b16, h17) =>
    some (b16, h17))
    else (
    some (false, h10))).bind fun (b14, h15) =>
    (if b14 = true then (
    (if a4 = true then (
    some (true, h15))
    else (
    (nck a5).bind fun _ =>
    ((rd h15 (padd a5 6) 0)).bind fun x24 =>
    (slen x24).bind fun n25 =>
    some ((n25 == 0), h15))).bind fun (b22, h23) =>
    some (b22, h23))
    else (
    some (false, h15))).bind fun (b20, h21) =>
    some (b20, h21)
abbrev ks79 : List SK := [.one .bool, .one .bool, .one .bool, .one .bool, .one .bool, .one .ref]
abbrev rs79 : List SK := [.one .bool]
noncomputable def e79 (N : Nat) : Env := ⟨Try.prog, 52, inTab [], inTab [], natTab [], inTab [], calTab [], altTab [], loopTab [], natTab []⟩
theorem fine79 (N : Nat) : Fine (e79 N) N 79 Try.f79 ks79 rs79 (F79 N) :=
  ⟨Try.func79, by kernel_rfl, by kernel_rfl, by kernel_rfl, loops_of trivial, by kernel_rfl, by kernel_rfl, fun _ => by kernel_rfl⟩
theorem good79 (N : Nat) : Go.L.Good (e79 N) := good_of trivial
theorem gd79 (N : Nat) : CalOk Try.prog 79 (.ro (mkFun ks79 rs79 (F79 N))) := mkFun_ro (fine79 N) (good79 N) (by kernel_rfl)

/-! ### 86: math.Float64bits -/
set_option maxRecDepth 100000 in
theorem gd86 : CalOk Try.prog 86 (.ext (mkP [.one (.float .f64)] [.one (.int .u64)] bitsX)) := ext_bits Try.func86 (by kernel_rfl) (by kernel_rfl) (by kernel_rfl) (by kernel_rfl)

/-! ### 89: math.Float64frombits -/
set_option maxRecDepth 100000 in
theorem gd89 : CalOk Try.prog 89 (.ext (mkP [.one (.int .u64)] [.one (.float .f64)] fromX)) := ext_from Try.func89 (by kernel_rfl) (by kernel_rfl) (by kernel_rfl) (by kernel_rfl)

/-! ### 87: math.Abs -/
noncomputable def F87 (N : Nat) : Nat × H → Option (Nat × H)
  | (a0, h) =>
    (bitsX (a0, [])).bind fun (x1, _) =>
    (fromX ((IntKind.u64.wrap (((BitVec.ofInt IntKind.u64.bits x1) &&& ~~~ (BitVec.ofInt IntKind.u64.bits 9223372036854775808)).toNat)), [])).bind fun (x2, _) =>
    some (x2, h)
abbrev ks87 : List SK := [.one (.float .f64)]
abbrev rs87 : List SK := [.one (.float .f64)]
noncomputable def e87 (N : Nat) : Env := ⟨Try.prog, 7, inTab [], inTab [], natTab [], inTab [], calTab [(86, .ext (mkP [.one (.float .f64)] [.one (.int .u64)] bitsX)), (89, .ext (mkP [.one (.int .u64)] [.one (.float .f64)] fromX))], altTab [], loopTab [], natTab []⟩
theorem fine87 (N : Nat) : Fine (e87 N) N 87 Try.f87 ks87 rs87 (F87 N) :=
  ⟨Try.func87, by kernel_rfl, by kernel_rfl, by kernel_rfl, loops_of trivial, by kernel_rfl, by kernel_rfl, fun _ => by kernel_rfl⟩
theorem good87 (N : Nat) : Go.L.Good (e87 N) := good_of ⟨gd86, ⟨gd89, trivial⟩⟩
theorem gd87 : CalOk Try.prog 87 (.pure (mkP ks87 rs87 (F87 100))) := mkP_good (fine87 100) (good87 100) (by kernel_rfl) (by kernel_rfl)

/-! ### 88: math.Copysign -/
noncomputable def F88 (N : Nat) : Nat × Nat × H → Option (Nat × H)
  | (a0, a1, h) =>
    (bitsX (a0, [])).bind fun (x1, _) =>
    (bitsX (a1, [])).bind fun (x2, _) =>
    (fromX ((IntKind.u64.wrap (((BitVec.ofInt IntKind.u64.bits (IntKind.u64.wrap (((BitVec.ofInt IntKind.u64.bits x1) &&& ~~~ (BitVec.ofInt IntKind.u64.bits 9223372036854775808)).toNat))) ||| (BitVec.ofInt IntKind.u64.bits (IntKind.u64.wrap (((BitVec.ofInt IntKind.u64.bits x2) &&& (BitVec.ofInt IntKind.u64.bits 9223372036854775808)).toNat)))).toNat)), [])).bind fun (x3, _) =>
    some (x3, h)
abbrev ks88 : List SK := [.one (.float .f64), .one (.float .f64)]
abbrev rs88 : List SK := [.one (.float .f64)]
noncomputable def e88 (N : Nat) : Env := ⟨Try.prog, 13, inTab [], inTab [], natTab [], inTab [], calTab [(86, .ext (mkP [.one (.float .f64)] [.one (.int .u64)] bitsX)), (89, .ext (mkP [.one (.int .u64)] [.one (.float .f64)] fromX))], altTab [], loopTab [], natTab []⟩
theorem fine88 (N : Nat) : Fine (e88 N) N 88 Try.f88 ks88 rs88 (F88 N) :=
  ⟨Try.func88, by kernel_rfl, by kernel_rfl, by kernel_rfl, loops_of trivial, by kernel_rfl, by kernel_rfl, fun _ => by kernel_rfl⟩
theorem good88 (N : Nat) : Go.L.Good (e88 N) := good_of ⟨gd86, ⟨gd89, trivial⟩⟩
theorem gd88 : CalOk Try.prog 88 (.pure (mkP ks88 rs88 (F88 100))) := mkP_good (fine88 100) (good88 100) (by kernel_rfl) (by kernel_rfl)

/-! ### 85: math.trunc -/
noncomputable def F85 (N : Nat) : Nat × H → Option (Nat × H)
  | (a0, h) =>
    (F87 100 (a0, [])).bind fun (x1, _) =>
    (if ((FloatKind.f64.format.order x1 4607182418800017408) == some .lt) = true then (
    (F88 100 (0, a0, [])).bind fun (x2, _) =>
    some (x2, h))
    else (
    (bitsX (a0, [])).bind fun (x3, _) =>
    ((if (decide ((IntKind.u64.wrap ((IntKind.u64.wrap (((BitVec.ofInt IntKind.u64.bits (Int.fdiv x3 (2 ^ (min (Int.toNat 52) IntKind.u64.bits)))) &&& (BitVec.ofInt IntKind.u64.bits 2047)).toNat)) - 1023)) < 52)) = true then (
    (if (IntKind.u64.wrap (52 - (IntKind.u64.wrap ((IntKind.u64.wrap (((BitVec.ofInt IntKind.u64.bits (Int.fdiv x3 (2 ^ (min (Int.toNat 52) IntKind.u64.bits)))) &&& (BitVec.ofInt IntKind.u64.bits 2047)).toNat)) - 1023)))) < 0 then none else (
    some ((IntKind.u64.wrap (((BitVec.ofInt IntKind.u64.bits x3) &&& ~~~ (BitVec.ofInt IntKind.u64.bits (IntKind.u64.wrap ((IntKind.u64.wrap (1 * 2 ^ (min (Int.toNat (IntKind.u64.wrap (52 - (IntKind.u64.wrap ((IntKind.u64.wrap (((BitVec.ofInt IntKind.u64.bits (Int.fdiv x3 (2 ^ (min (Int.toNat 52) IntKind.u64.bits)))) &&& (BitVec.ofInt IntKind.u64.bits 2047)).toNat)) - 1023))))) IntKind.u64.bits))) - 1)))).toNat)), h))))
    else (
    some (x3, h))) : Option (Int × H)).bind fun (x4, h5) =>
    (fromX (x4, [])).bind fun (x6, _) =>
    some (x6, h5)))
abbrev ks85 : List SK := [.one (.float .f64)]
abbrev rs85 : List SK := [.one (.float .f64)]
noncomputable def e85 (N : Nat) : Env := ⟨Try.prog, 26, inTab [], inTab [], natTab [], inTab [], calTab [(87, .pure (mkP ks87 rs87 (F87 100))), (88, .pure (mkP ks88 rs88 (F88 100))), (86, .ext (mkP [.one (.float .f64)] [.one (.int .u64)] bitsX)), (89, .ext (mkP [.one (.int .u64)] [.one (.float .f64)] fromX))], altTab [(393233, [⟨.normal, [3], [.one (.int .u64)], [], []⟩])], loopTab [], natTab []⟩
theorem fine85 (N : Nat) : Fine (e85 N) N 85 Try.f85 ks85 rs85 (F85 N) :=
  ⟨Try.func85, by kernel_rfl, by kernel_rfl, by kernel_rfl, loops_of trivial, by kernel_rfl, by kernel_rfl, fun _ => by kernel_rfl⟩
theorem good85 (N : Nat) : Go.L.Good (e85 N) := good_of ⟨gd87, ⟨gd88, ⟨gd86, ⟨gd89, trivial⟩⟩⟩⟩
theorem gd85 : CalOk Try.prog 85 (.pure (mkP ks85 rs85 (F85 100))) := mkP_good (fine85 100) (good85 100) (by kernel_rfl) (by kernel_rfl)

/-! ### 82: math.Trunc -/
noncomputable def F82 (N : Nat) : Nat × H → Option (Nat × H)
  | (a0, h) =>
    (if true = true then (
    none)
    else (
    (F85 100 (a0, [])).bind fun (x1, _) =>
    some (x1, h)))
abbrev ks82 : List SK := [.one (.float .f64)]
abbrev rs82 : List SK := [.one (.float .f64)]
noncomputable def e82 (N : Nat) : Env := ⟨Try.prog, 7, inTab [], inTab [], natTab [], inTab [], calTab [(85, .pure (mkP ks85 rs85 (F85 100)))], altTab [], loopTab [], natTab []⟩
theorem fine82 (N : Nat) : Fine (e82 N) N 82 Try.f82 ks82 rs82 (F82 N) :=
  ⟨Try.func82, by kernel_rfl, by kernel_rfl, by kernel_rfl, loops_of trivial, by kernel_rfl, by kernel_rfl, fun _ => by kernel_rfl⟩
theorem good82 (N : Nat) : Go.L.Good (e82 N) := good_of ⟨gd85, trivial⟩
theorem gd82 (N : Nat) : CalOk Try.prog 82 (.full (mkFun ks82 rs82 (F82 N))) := mkFun_good (fine82 N) (good82 N)

/-! ### 83: math.Signbit -/
noncomputable def F83 (N : Nat) : Nat × H → Option (Bool × H)
  | (a0, h) =>
    (bitsX (a0, [])).bind fun (x1, _) =>
    some ((decide ((IntKind.i64.wrap x1) < 0)), h)
abbrev ks83 : List SK := [.one (.float .f64)]
abbrev rs83 : List SK := [.one .bool]
noncomputable def e83 (N : Nat) : Env := ⟨Try.prog, 7, inTab [], inTab [], natTab [], inTab [], calTab [(86, .ext (mkP [.one (.float .f64)] [.one (.int .u64)] bitsX))], altTab [], loopTab [], natTab []⟩
theorem fine83 (N : Nat) : Fine (e83 N) N 83 Try.f83 ks83 rs83 (F83 N) :=
  ⟨Try.func83, by kernel_rfl, by kernel_rfl, by kernel_rfl, loops_of trivial, by kernel_rfl, by kernel_rfl, fun _ => by kernel_rfl⟩
theorem good83 (N : Nat) : Go.L.Good (e83 N) := good_of ⟨gd86, trivial⟩
theorem gd83 : CalOk Try.prog 83 (.pure (mkP ks83 rs83 (F83 100))) := mkP_good (fine83 100) (good83 100) (by kernel_rfl) (by kernel_rfl)

/-! ### 80: term.whole -/
noncomputable def F80 (N : Nat) : Nat × H → Option (Bool × H)
  | (a0, h) =>
    (F82 N (a0, h)).bind fun (x1, h2) =>
    (if ((FloatKind.f64.format.order a0 x1) == some .eq) = true then (
    some (((FloatKind.f64.format.order a0 13965662444475908096) == some .gt || (FloatKind.f64.format.order a0 13965662444475908096) == some .eq), h2))
    else (
    some (false, h2))).bind fun (b3, h4) =>
    (if b3 = true then (
    some (((FloatKind.f64.format.order a0 4742290407621132288) == some .lt || (FloatKind.f64.format.order a0 4742290407621132288) == some .eq), h4))
    else (
    some (false, h4))).bind fun (b5, h6) =>
    (if b5 = true then (
    (if ((FloatKind.f64.format.order a0 0) != some .eq) = true then (
    some (true, h6))
    else (
    (F83 100 (a0, [])).bind fun (x11, _) =>
    some ((!x11), h6))).bind fun (b9, h10) =>
    some (b9, h10))
    else (
    some (false, h6))).bind fun (b7, h8) =>
    some (b7, h8)
abbrev ks80 : List SK := [.one (.float .f64)]
abbrev rs80 : List SK := [.one .bool]
noncomputable def e80 (N : Nat) : Env := ⟨Try.prog, 24, inTab [], inTab [], natTab [], inTab [], calTab [(82, .full (mkFun ks82 rs82 (F82 N))), (83, .pure (mkP ks83 rs83 (F83 100)))], altTab [], loopTab [], natTab []⟩
theorem fine80 (N : Nat) : Fine (e80 N) N 80 Try.f80 ks80 rs80 (F80 N) :=
  ⟨Try.func80, by kernel_rfl, by kernel_rfl, by kernel_rfl, loops_of trivial, by kernel_rfl, by kernel_rfl, fun _ => by kernel_rfl⟩
theorem good80 (N : Nat) : Go.L.Good (e80 N) := good_of ⟨gd82 N, ⟨gd83, trivial⟩⟩
theorem gd80 (N : Nat) : CalOk Try.prog 80 (.full (mkFun ks80 rs80 (F80 N))) := mkFun_good (fine80 N) (good80 N)

/-! ### 81: term.atom -/
noncomputable def L81_0 (N : Nat) : Nat → ByteArray × Int × H → Option ((H) ⊕ (Bool × H))
  | 0, _ => none
  | n + 1, (x27, x28, h29) =>
    (if (decide (x28 < ((x27).size : Int))) = true then (
    (if 0 ≤ x28 then (x27[Int.toNat x28]?.bind fun c30 =>
    (if (decide (((UInt8.toNat c30 : Nat) : Int) ≥ 97)) = true then (
    some ((decide (((UInt8.toNat c30 : Nat) : Int) ≤ 122)), h29))
    else (
    some (false, h29))).bind fun (b31, h32) =>
    (if b31 = true then (
    some (true, h32))
    else (
    (if (decide (x28 > 0)) = true then (
    (if (decide (((UInt8.toNat c30 : Nat) : Int) ≥ 65)) = true then (
    some ((decide (((UInt8.toNat c30 : Nat) : Int) ≤ 90)), h32))
    else (
    some (false, h32))).bind fun (b37, h38) =>
    (if b37 = true then (
    some (true, h38))
    else (
    (if (decide (((UInt8.toNat c30 : Nat) : Int) ≥ 48)) = true then (
    some ((decide (((UInt8.toNat c30 : Nat) : Int) ≤ 57)), h38))
    else (
    some (false, h38))).bind fun (b41, h42) =>
    some (b41, h42))).bind fun (b39, h40) =>
    (if b39 = true then (
    some (true, h40))
    else (
    some ((((UInt8.toNat c30 : Nat) : Int) == 95), h40))).bind fun (b43, h44) =>
    some (b43, h44))
    else (
    some (false, h32))).bind fun (b35, h36) =>
    some (b35, h36))).bind fun (b33, h34) =>
    (if b33 = true then (
    L81_0 N n (x27, (IntKind.i64.wrap (x28 + 1)), h34))
    else (
    some (.inr (false, h34))))) else none))
    else (
    some (.inl h29)))
noncomputable def F81 (N : Nat) : ByteArray × H → Option (Bool × H)
  | (a0, h) =>
    (if (decide (((a0).size : Int) < 1)) = true then (
    some (true, h))
    else (
    some ((decide (((a0).size : Int) > 64)), h))).bind fun (b1, h2) =>
    (if b1 = true then (
    some (true, h2))
    else (
    some (((a0).toList == ((ByteArray.mk #[110, 105, 108])).toList), h2))).bind fun (b3, h4) =>
    (if b3 = true then (
    some (true, h4))
    else (
    some (((a0).toList == ((ByteArray.mk #[116, 114, 117, 101])).toList), h4))).bind fun (b5, h6) =>
    (if b5 = true then (
    some (true, h6))
    else (
    some (((a0).toList == ((ByteArray.mk #[102, 97, 108, 115, 101])).toList), h6))).bind fun (b7, h8) =>
    (if b7 = true then (
    some (false, h8))
    else (
    (L81_0 N N (a0, 0, h8)).bind fun o45 => match o45 with
    | .inl h46 => (
    some (true, h46))
    | .inr (x47, h48) => (
    some (x47, h48))))
abbrev ks81 : List SK := [.one .str]
abbrev rs81 : List SK := [.one .bool]
noncomputable def e81 (N : Nat) : Env := ⟨Try.prog, 64, inTab [], inTab [], natTab [], inTab [], calTab [], altTab [], loopTab [(4, ⟨⟨.normal, [0, 3], [.one .str, .one (.int .i64)], [], []⟩, [⟨(.exit 0), [], [], [], []⟩, ⟨.ret, [2], [.one .bool], [], []⟩], L81_0 N⟩)], natTab []⟩
theorem l81_0 (N : Nat) : ∀ A, (e81 N).lp (lid (loopAt Try.f81 0)) = some A → LoopOk (e81 N) N (loopAt Try.f81 0) A :=
  loopOk_of (A := ⟨⟨.normal, [0, 3], [.one .str, .one (.int .i64)], [], []⟩, [⟨(.exit 0), [], [], [], []⟩, ⟨.ret, [2], [.one .bool], [], []⟩], L81_0 N⟩) (by kernel_rfl) (fun _ => rfl) (fun _ _ => by kernel_rfl)
theorem fine81 (N : Nat) : Fine (e81 N) N 81 Try.f81 ks81 rs81 (F81 N) :=
  ⟨Try.func81, by kernel_rfl, by kernel_rfl, by kernel_rfl, loops_of ⟨l81_0 N, trivial⟩, by kernel_rfl, by kernel_rfl, fun _ => by kernel_rfl⟩
theorem good81 (N : Nat) : Go.L.Good (e81 N) := good_of trivial
theorem gd81 : CalOk Try.prog 81 (.pure (mkP ks81 rs81 (F81 100))) := mkP_good (fine81 100) (good81 100) (by kernel_rfl) (by kernel_rfl)

/-! ### 76: term.own -/
noncomputable def F76 (N : Nat) : Int × Int × (Nat × Nat) × ByteArray × Int × Int × V × H → Option (Bool × H)
  | (a0_0, a0_1, a0_2, a0_3, a0_4, a0_5, a0_6, h) =>
    (some (h ++ [O.cells 0 [(.int .i64 a0_0), (.int .i64 a0_1), (.cplx .f64 a0_2.1 a0_2.2), (.str a0_3), (.int .i64 a0_4), (.int .i64 a0_5), a0_6]]) : Option H).bind fun h1 =>
    (L.asInt .i64 (rd h1 (.ptr (h).length 0 0) 0)).bind fun x2 =>
    (if (x2 == 1) = true then (
    (F79 N (false, false, false, false, false, (.ptr (h).length 0 0), h1)).bind fun (x3, _) =>
    some (x3, h1))
    else (
    (if (x2 == 2) = true then (
    (L.asInt .i64 (rd h1 (.ptr (h).length 0 1) 0)).bind fun x4 =>
    (if (x4 == 0) = true then (
    some (true, h1))
    else (
    (L.asInt .i64 (rd h1 (.ptr (h).length 0 1) 0)).bind fun x7 =>
    some ((x7 == 1), h1))).bind fun (b5, h6) =>
    (if b5 = true then (
    (F79 N (true, false, false, false, false, (.ptr (h).length 0 0), h6)).bind fun (x10, _) =>
    some (x10, h6))
    else (
    some (false, h6))).bind fun (b8, h9) =>
    some (b8, h9))
    else (
    (if (x2 == 3) = true then (
    (L.asInt .i64 (rd h1 (.ptr (h).length 0 1) 0)).bind fun x11 =>
    (if (decide (x11 ≥ (-4611686018427387903))) = true then (
    (L.asInt .i64 (rd h1 (.ptr (h).length 0 1) 0)).bind fun x14 =>
    some ((decide (x14 ≤ 4611686018427387903)), h1))
    else (
    some (false, h1))).bind fun (b12, h13) =>
    (if b12 = true then (
    (F79 N (true, false, false, false, false, (.ptr (h).length 0 0), h13)).bind fun (x17, _) =>
    some (x17, h13))
    else (
    some (false, h13))).bind fun (b15, h16) =>
    some (b15, h16))
    else (
    (if (x2 == 4) = true then (
    (L.asCplx .f64 (rd h1 (.ptr (h).length 0 2) 0)).bind fun x18 =>
    (F80 N (x18.1, h1)).bind fun (x19, h20) =>
    (if x19 = true then (
    (L.asCplx .f64 (rd h20 (.ptr (h).length 0 2) 0)).bind fun x23 =>
    (F80 N (x23.2, h20)).bind fun (x24, h25) =>
    some (x24, h25))
    else (
    some (false, h20))).bind fun (b21, h22) =>
    (if b21 = true then (
    (F79 N (false, true, false, false, false, (.ptr (h).length 0 0), h22)).bind fun (x28, _) =>
    some (x28, h22))
    else (
    some (false, h22))).bind fun (b26, h27) =>
    some (b26, h27))
    else (
    (if (x2 == 5) = true then (
    (L.asStr (rd h1 (.ptr (h).length 0 3) 0)).bind fun x29 =>
    (F81 100 (x29, [])).bind fun (x30, _) =>
    (if x30 = true then (
    (F79 N (false, false, true, false, false, (.ptr (h).length 0 0), h1)).bind fun (x33, _) =>
    some (x33, h1))
    else (
    some (false, h1))).bind fun (b31, h32) =>
    some (b31, h32))
    else (
    (if (x2 == 6) = true then (
    (L.asInt .i64 (rd h1 (.ptr (h).length 0 4) 0)).bind fun x34 =>
    (if (decide (x34 ≥ 0)) = true then (
    (L.asInt .i64 (rd h1 (.ptr (h).length 0 4) 0)).bind fun x37 =>
    some ((decide (x37 < 256)), h1))
    else (
    some (false, h1))).bind fun (b35, h36) =>
    (if b35 = true then (
    (L.asInt .i64 (rd h36 (.ptr (h).length 0 5) 0)).bind fun x40 =>
    some ((decide (x40 ≥ 1)), h36))
    else (
    some (false, h36))).bind fun (b38, h39) =>
    (if b38 = true then (
    (L.asInt .i64 (rd h39 (.ptr (h).length 0 5) 0)).bind fun x43 =>
    some ((decide (x43 ≤ 4611686018427387903)), h39))
    else (
    some (false, h39))).bind fun (b41, h42) =>
    (if b41 = true then (
    (F79 N (false, false, false, true, false, (.ptr (h).length 0 0), h42)).bind fun (x46, _) =>
    some (x46, h42))
    else (
    some (false, h42))).bind fun (b44, h45) =>
    some (b44, h45))
    else (
    (if (x2 == 7) = true then (
    (L.asInt .i64 (rd h1 (.ptr (h).length 0 1) 0)).bind fun x47 =>
    (if (decide (x47 ≥ 1)) = true then (
    (L.asInt .i64 (rd h1 (.ptr (h).length 0 1) 0)).bind fun x50 =>
    some ((decide (x50 ≤ 4611686018427387903)), h1))
    else (
    some (false, h1))).bind fun (b48, h49) =>
    (if b48 = true then (
    (F79 N (true, false, false, false, false, (.ptr (h).length 0 0), h49)).bind fun (x53, _) =>
    some (x53, h49))
    else (
    some (false, h49))).bind fun (b51, h52) =>
    some (b51, h52))
    else (
    ((if (x2 == 8) = true then (
    some ((.ptr (h).length 0 0), (x2 == 8), h1))
    else (
    some ((.ptr (h).length 0 0), (x2 == 9), h1))) : Option (V × Bool × H)).bind fun (x54, x55, h56) =>
    (if x55 = true then (
    (F79 N (false, false, false, false, true, x54, h56)).bind fun (x57, _) =>
    some (x57, h56))
    else (
    some (false, h56)))))))))))))))))
abbrev ks76 : List SK := [.agg [(.int .i64), (.int .i64), (.cplx .f64), .str, (.int .i64), (.int .i64), .ref]]
abbrev rs76 : List SK := [.one .bool]
noncomputable def e76 (N : Nat) : Env := ⟨Try.prog, 111, inTab [], inTab [], natTab [], inTab [], calTab [(79, .ro (mkFun ks79 rs79 (F79 N))), (80, .full (mkFun ks80 rs80 (F80 N))), (81, .pure (mkP ks81 rs81 (F81 100)))], altTab [(4831838314, [⟨.normal, [3, 106], [.clo 79 [.ref], .one .bool], [], []⟩])], loopTab [], natTab []⟩
theorem fine76 (N : Nat) : Fine (e76 N) N 76 Try.f76 ks76 rs76 (F76 N) :=
  ⟨Try.func76, by kernel_rfl, by kernel_rfl, by kernel_rfl, loops_of trivial, by kernel_rfl, by kernel_rfl, fun _ => by kernel_rfl⟩
theorem good76 (N : Nat) : Go.L.Good (e76 N) := good_of ⟨gd79 N, ⟨gd80 N, ⟨gd81, trivial⟩⟩⟩
theorem gd76 (N : Nat) : CalOk Try.prog 76 (.full (mkFun ks76 rs76 (F76 N))) := mkFun_good (fine76 N) (good76 N)

/-! ### 68: term.walk -/
noncomputable def L68_0 (N : Nat) (rec : Int × Int × (Nat × Nat) × ByteArray × Int × Int × V × Int × V × V × H → Option (Int × H)) : Nat → Int × V × V × Int × Int × Int × Int × (Nat × Nat) × ByteArray × Int × Int × V × H → Option ((H) ⊕ (Int × H))
  | 0, _ => none
  | n + 1, (x34, x35, x36, x37, x38, x39, x40, x41, x42, x43, x44, x45, h46) =>
    (if (decide (x38 < x37)) = true then (
    (sidx x45 x38 7).bind fun q47 =>
    (L.asInt .i64 (rd h46 q47 0)).bind fun x48 =>
    (L.asInt .i64 (rd h46 q47 1)).bind fun x49 =>
    (L.asCplx .f64 (rd h46 q47 2)).bind fun x50 =>
    (L.asStr (rd h46 q47 3)).bind fun x51 =>
    (L.asInt .i64 (rd h46 q47 4)).bind fun x52 =>
    (L.asInt .i64 (rd h46 q47 5)).bind fun x53 =>
    ((rd h46 q47 6)).bind fun x54 =>
    (rec (x48, x49, (x50.1, x50.2), x51, x52, x53, x54, (IntKind.i64.wrap (x34 + 1)), x35, x36, h46)).bind fun (x55, h56) =>
    (if (x55 != 0) = true then (
    some (.inr (x55, h56)))
    else (
    L68_0 N rec n (x34, x35, x36, x37, (IntKind.i64.wrap (x38 + 1)), x39, x40, (x41.1, x41.2), x42, x43, x44, x45, h56))))
    else (
    some (.inl h46)))
noncomputable def F68 (N : Nat) : Nat → Int × Int × (Nat × Nat) × ByteArray × Int × Int × V × Int × V × V × H → Option (Int × H)
  | 0, _ => none
  | d + 1, (a0_0, a0_1, a0_2, a0_3, a0_4, a0_5, a0_6, a1, a2, a3, h) =>
    (nck a2).bind fun _ =>
    (L.asInt .i64 (rd h a2 0)).bind fun x1 =>
    (nck a2).bind fun _ =>
    (wr h a2 [(.int .i64 (IntKind.i64.wrap (x1 + 1)))]).bind fun h2 =>
    (nck a3).bind fun _ =>
    (L.asInt .i64 (rd h2 a3 0)).bind fun x3 =>
    (nck a3).bind fun _ =>
    (wr h2 a3 [(.int .i64 (if a1 > x3 then a1 else x3))]).bind fun h4 =>
    (nck a2).bind fun _ =>
    (L.asInt .i64 (rd h4 a2 0)).bind fun x5 =>
    (if (decide (x5 > 1024)) = true then (
    some (true, h4))
    else (
    some ((decide (a1 > 64)), h4))).bind fun (b6, h7) =>
    (if b6 = true then (
    some (34, h7))
    else (
    (F76 N (a0_0, a0_1, (a0_2.1, a0_2.2), a0_3, a0_4, a0_5, a0_6, h7)).bind fun (x8, h9) =>
    (if (!x8) = true then (
    some (30, h9))
    else (
    (slen a0_6).bind fun n10 =>
    (L68_0 N (F68 N d) N (a1, a2, a3, n10, 0, a0_0, a0_1, (a0_2.1, a0_2.2), a0_3, a0_4, a0_5, a0_6, h9)).bind fun o57 => match o57 with
    | .inl h58 => (
    some (0, h58))
    | .inr (x59, h60) => (
    some (x59, h60))))))
abbrev ks68 : List SK := [.agg [(.int .i64), (.int .i64), (.cplx .f64), .str, (.int .i64), (.int .i64), .ref], .one (.int .i64), .one .ref, .one .ref]
abbrev rs68 : List SK := [.one (.int .i64)]
noncomputable def e68 (N d : Nat) : Env := ⟨Try.prog, 54, inTab [4], inTab [], natTab [(4, 4), (34, 4), (40, 4)], inTab [], calTab [(76, .full (mkFun ks76 rs76 (F76 N))), (68, .full (mkFun ks68 rs68 (F68 N d)))], altTab [], loopTab [(8, ⟨⟨.normal, [1, 2, 3, 4, 36, 37], [.one (.int .i64), .one .ref, .one .ref, .lp 4 0, .one (.int .i64), .one (.int .i64)], [4], [.cells [(.int .i64), (.int .i64), (.cplx .f64), .str, (.int .i64), (.int .i64), .ref]]⟩, [⟨(.exit 0), [], [], [], []⟩, ⟨.ret, [8], [.one (.int .i64)], [], []⟩], L68_0 N (F68 N d)⟩)], natTab []⟩
theorem l68_0 (N d : Nat) : ∀ A, (e68 N d).lp (lid (loopAt Try.f68 0)) = some A → LoopOk (e68 N d) N (loopAt Try.f68 0) A :=
  loopOk_of (A := ⟨⟨.normal, [1, 2, 3, 4, 36, 37], [.one (.int .i64), .one .ref, .one .ref, .lp 4 0, .one (.int .i64), .one (.int .i64)], [4], [.cells [(.int .i64), (.int .i64), (.cplx .f64), .str, (.int .i64), (.int .i64), .ref]]⟩, [⟨(.exit 0), [], [], [], []⟩, ⟨.ret, [8], [.one (.int .i64)], [], []⟩], L68_0 N (F68 N d)⟩) (by kernel_rfl) (fun _ => rfl) (fun _ _ => by kernel_rfl)
theorem fine68 (N d : Nat) : Fine (e68 N d) N 68 Try.f68 ks68 rs68 (F68 N (d + 1)) :=
  ⟨Try.func68, by kernel_rfl, by kernel_rfl, by kernel_rfl, loops_of ⟨l68_0 N d, trivial⟩, by kernel_rfl, by kernel_rfl, fun _ => by kernel_rfl⟩
theorem gd68 (N : Nat) : ∀ d, CalOk Try.prog 68 (.full (mkFun ks68 rs68 (F68 N d)))
  | 0 => fun vs h s he => by obtain ⟨t, _, he⟩ := Option.bind_eq_some_iff.1 he; cases he
  | d + 1 => mkFun_good (fine68 N d) (good_of ⟨gd76 N, ⟨gd68 N d, trivial⟩⟩)
theorem good68 (N d : Nat) : Go.L.Good (e68 N d) := good_of ⟨gd76 N, ⟨gd68 N d, trivial⟩⟩

/-! ### 62: term.Parts -/
noncomputable def F62 (N : Nat) : Int × Int × (Nat × Nat) × ByteArray × Int × Int × V × H → Option (Int × Int × Int × H)
  | (a0_0, a0_1, a0_2, a0_3, a0_4, a0_5, a0_6, h) =>
    (some (h ++ [O.cells 0 [(.int .i64 0)]]) : Option H).bind fun h1 =>
    (some (h1 ++ [O.cells 0 [(.int .i64 0)]]) : Option H).bind fun h2 =>
    (F68 N N (a0_0, a0_1, (a0_2.1, a0_2.2), a0_3, a0_4, a0_5, a0_6, 1, (.ptr (h).length 0 0), (.ptr (h1).length 0 0), h2)).bind fun (x3, h4) =>
    (if (x3 != 0) = true then (
    (wr h4 (.ptr (h).length 0 0) [(.int .i64 0)]).bind fun h5 =>
    (wr h5 (.ptr (h1).length 0 0) [(.int .i64 0)]).bind fun h6 =>
    (L.asInt .i64 (rd h6 (.ptr (h).length 0 0) 0)).bind fun x7 =>
    (L.asInt .i64 (rd h6 (.ptr (h1).length 0 0) 0)).bind fun x8 =>
    some (x7, x8, x3, h6))
    else (
    (L.asInt .i64 (rd h4 (.ptr (h).length 0 0) 0)).bind fun x9 =>
    (L.asInt .i64 (rd h4 (.ptr (h1).length 0 0) 0)).bind fun x10 =>
    (wr h4 (.ptr (h).length 0 0) [(.int .i64 x9)]).bind fun h11 =>
    (wr h11 (.ptr (h1).length 0 0) [(.int .i64 x10)]).bind fun h12 =>
    (L.asInt .i64 (rd h12 (.ptr (h).length 0 0) 0)).bind fun x13 =>
    (L.asInt .i64 (rd h12 (.ptr (h1).length 0 0) 0)).bind fun x14 =>
    some (x13, x14, 0, h12)))
abbrev ks62 : List SK := [.agg [(.int .i64), (.int .i64), (.cplx .f64), .str, (.int .i64), (.int .i64), .ref]]
abbrev rs62 : List SK := [.one (.int .i64), .one (.int .i64), .one (.int .i64)]
noncomputable def e62 (N : Nat) : Env := ⟨Try.prog, 12, inTab [1], inTab [], natTab [(1, 1)], inTab [], calTab [(68, .full (mkFun ks68 rs68 (F68 N N)))], altTab [], loopTab [], natTab []⟩
theorem fine62 (N : Nat) : Fine (e62 N) N 62 Try.f62 ks62 rs62 (F62 N) :=
  ⟨Try.func62, by kernel_rfl, by kernel_rfl, by kernel_rfl, loops_of trivial, by kernel_rfl, by kernel_rfl, fun _ => by kernel_rfl⟩
theorem good62 (N : Nat) : Go.L.Good (e62 N) := good_of ⟨gd68 N N, trivial⟩
theorem gd62 (N : Nat) : CalOk Try.prog 62 (.full (mkFun ks62 rs62 (F62 N))) := mkFun_good (fine62 N) (good62 N)

/-! ### 43: term.Check -/
noncomputable def F43 (N : Nat) : Int × Int × (Nat × Nat) × ByteArray × Int × Int × V × H → Option (Int × H)
  | (a0_0, a0_1, a0_2, a0_3, a0_4, a0_5, a0_6, h) =>
    (F62 N (a0_0, a0_1, (a0_2.1, a0_2.2), a0_3, a0_4, a0_5, a0_6, h)).bind fun (x1, x2, x3, h4) =>
    some (x3, h4)
abbrev ks43 : List SK := [.agg [(.int .i64), (.int .i64), (.cplx .f64), .str, (.int .i64), (.int .i64), .ref]]
abbrev rs43 : List SK := [.one (.int .i64)]
noncomputable def e43 (N : Nat) : Env := ⟨Try.prog, 13, inTab [1], inTab [], natTab [(1, 1)], inTab [], calTab [(62, .full (mkFun ks62 rs62 (F62 N)))], altTab [], loopTab [], natTab []⟩
theorem fine43 (N : Nat) : Fine (e43 N) N 43 Try.f43 ks43 rs43 (F43 N) :=
  ⟨Try.func43, by kernel_rfl, by kernel_rfl, by kernel_rfl, loops_of trivial, by kernel_rfl, by kernel_rfl, fun _ => by kernel_rfl⟩
theorem good43 (N : Nat) : Go.L.Good (e43 N) := good_of ⟨gd62 N, trivial⟩
theorem gd43 (N : Nat) : CalOk Try.prog 43 (.full (mkFun ks43 rs43 (F43 N))) := mkFun_good (fine43 N) (good43 N)

/-! ### 67: pattern.walker).own -/
noncomputable def F67 (N : Nat) : V × Int × Int × Int × Int × (Nat × Nat) × ByteArray × Int × Int × V × V × V × H → Option (Bool × H)
  | (a0, a1_0, a1_1, a1_2, a1_3, a1_4, a1_5, a1_6, a1_7, a1_8, a1_9, a1_10, h) =>
    (if (a1_0 != 3) = true then (
    (F74 N (a1_2, a1_3, (a1_4.1, a1_4.2), a1_5, a1_6, a1_7, a1_8, h)).bind fun (x3, _) =>
    some ((!x3), h))
    else (
    some (false, h))).bind fun (b1, h2) =>
    (if b1 = true then (
    some (false, h2))
    else (
    (if (a1_0 != 2) = true then (
    some ((a1_0 != 4), h2))
    else (
    some (false, h2))).bind fun (b4, h5) =>
    (if b4 = true then (
    some ((a1_1 != 0), h5))
    else (
    some (false, h5))).bind fun (b6, h7) =>
    (if b6 = true then (
    some (false, h7))
    else (
    (if (a1_0 != 5) = true then (
    some ((a1_0 != 6), h7))
    else (
    some (false, h7))).bind fun (b8, h9) =>
    (if b8 = true then (
    (slen a1_9).bind fun n12 =>
    some ((decide (n12 > 0)), h9))
    else (
    some (false, h9))).bind fun (b10, h11) =>
    (if b10 = true then (
    some (false, h11))
    else (
    (slen a1_10).bind fun n13 =>
    (if (decide (n13 > 1)) = true then (
    some (true, h11))
    else (
    (if (a1_0 != 6) = true then (
    (slen a1_10).bind fun n18 =>
    some ((decide (n18 > 0)), h11))
    else (
    some (false, h11))).bind fun (b16, h17) =>
    some (b16, h17))).bind fun (b14, h15) =>
    (if b14 = true then (
    some (false, h15))
    else (
    ((if (a1_0 == 1) = true then (
    some (a0, a1_0, (a1_0 == 1), a1_0, a1_1, a1_2, a1_3, (a1_4.1, a1_4.2), a1_5, a1_6, a1_7, a1_8, a1_9, a1_10, h15))
    else (
    (if (a1_0 == 5) = true then (
    some (a0, a1_0, (a1_0 == 5), a1_0, a1_1, a1_2, a1_3, (a1_4.1, a1_4.2), a1_5, a1_6, a1_7, a1_8, a1_9, a1_10, h15))
    else (
    some (a0, a1_0, (a1_0 == 6), a1_0, a1_1, a1_2, a1_3, (a1_4.1, a1_4.2), a1_5, a1_6, a1_7, a1_8, a1_9, a1_10, h15))))) : Option (V × Int × Bool × Int × Int × Int × Int × (Nat × Nat) × ByteArray × Int × Int × V × V × V × H)).bind fun (x19, x20, x21, x22, x23, x24, x25, x26, x27, x28, x29, x30, x31, x32, h33) =>
    (if x21 = true then (
    some (true, h33))
    else (
    (if (x20 == 2) = true then (
    (if (decide (x23 < 0)) = true then (
    some (true, h33))
    else (
    (nck x19).bind fun _ =>
    (L.asInt .i64 (rd h33 (padd x19 0) 0)).bind fun x36 =>
    some ((decide (x23 ≥ x36)), h33))).bind fun (b34, h35) =>
    (if b34 = true then (
    some (true, h35))
    else (
    (nck x19).bind fun _ =>
    ((rd h35 (padd x19 2) 0)).bind fun x39 =>
    (F75 N (x39, x23, h35)).bind fun (x40, _) =>
    some (x40, h35))).bind fun (b37, h38) =>
    (if b37 = true then (
    some (false, h38))
    else (
    (nck x19).bind fun _ =>
    ((rd h38 (padd x19 2) 0)).bind fun x41 =>
    (happ h38 x41 1 1 [(.int .i64 x23)]).bind fun (v42, h43) =>
    (nck x19).bind fun _ =>
    (ck1 v42).bind fun _ =>
    (wr h43 (padd x19 2) [v42]).bind fun h44 =>
    some (true, h44))))
    else (
    (if (x20 == 3) = true then (
    (if (x24 != 8) = true then (
    some ((x24 != 9), h33))
    else (
    some (false, h33))).bind fun (b45, h46) =>
    (if b45 = true then (
    (F43 N (x24, x25, (x26.1, x26.2), x27, x28, x29, x30, h46)).bind fun (x49, h50) =>
    some ((x49 == 0), h50))
    else (
    some (false, h46))).bind fun (b47, h48) =>
    some (b47, h48))
    else (
    (if (x20 == 4) = true then (
    (if (decide (x23 ≥ 1)) = true then (
    some ((decide (x23 ≤ 9)), h33))
    else (
    some (false, h33))).bind fun (b51, h52) =>
    some (b51, h52))
    else (
    some (false, h33)))))))))))))))))
abbrev ks67 : List SK := [.one .ref, .agg [(.int .i64), (.int .i64), (.int .i64), (.int .i64), (.cplx .f64), .str, (.int .i64), (.int .i64), .ref, .ref, .ref]]
abbrev rs67 : List SK := [.one .bool]
noncomputable def e67 (N : Nat) : Env := ⟨Try.prog, 124, inTab [3, 92], inTab [], natTab [(3, 3), (5, 3), (9, 3), (14, 3), (18, 3), (23, 3), (27, 3), (31, 3), (36, 3), (41, 3), (46, 3), (50, 3), (56, 3), (64, 3), (68, 3), (81, 3), (90, 3), (98, 3), (99, 3), (103, 3), (104, 3), (109, 3), (116, 3), (120, 3)], inTab [], calTab [(74, .ro (mkFun ks74 rs74 (F74 N))), (75, .ro (mkFun ks75 rs75 (F75 N))), (43, .full (mkFun ks43 rs43 (F43 N)))], altTab [(2952790074, [⟨.normal, [0, 3, 57, 58], [.one .ref, .lp 3 0, .one (.int .i64), .one .bool], [3], [.cells [(.int .i64), (.int .i64), (.int .i64), (.int .i64), (.cplx .f64), .str, (.int .i64), (.int .i64), .ref, .ref, .ref]]⟩])], loopTab [], natTab []⟩
theorem fine67 (N : Nat) : Fine (e67 N) N 67 Try.f67 ks67 rs67 (F67 N) :=
  ⟨Try.func67, by kernel_rfl, by kernel_rfl, by kernel_rfl, loops_of trivial, by kernel_rfl, by kernel_rfl, fun _ => by kernel_rfl⟩
theorem good67 (N : Nat) : Go.L.Good (e67 N) := good_of ⟨gd74 N, ⟨gd75 N, ⟨gd43 N, trivial⟩⟩⟩
theorem gd67 (N : Nat) : CalOk Try.prog 67 (.full (mkFun ks67 rs67 (F67 N))) := mkFun_good (fine67 N) (good67 N)

/-! ### 60: pattern.walker).walk -/
noncomputable def L60_1 (N : Nat) (rec : V × Int × Int × Int × Int × (Nat × Nat) × ByteArray × Int × Int × V × V × V × Int × H → Option (Int × H)) : Nat → V × Int × V × V × Int × Int × Int × Int × H → Option ((V × Int × V × Int × Int × H) ⊕ (Int × H))
  | 0, _ => none
  | n + 1, (x42, x43, x44, x45, x46, x47, x48, x49, h50) =>
    (if (decide (x49 < x48)) = true then (
    (sidx x44 x49 11).bind fun q51 =>
    (L.asInt .i64 (rd h50 q51 0)).bind fun x52 =>
    (L.asInt .i64 (rd h50 q51 1)).bind fun x53 =>
    (L.asInt .i64 (rd h50 q51 2)).bind fun x54 =>
    (L.asInt .i64 (rd h50 q51 3)).bind fun x55 =>
    (L.asCplx .f64 (rd h50 q51 4)).bind fun x56 =>
    (L.asStr (rd h50 q51 5)).bind fun x57 =>
    (L.asInt .i64 (rd h50 q51 6)).bind fun x58 =>
    (L.asInt .i64 (rd h50 q51 7)).bind fun x59 =>
    ((rd h50 q51 8)).bind fun x60 =>
    ((rd h50 q51 9)).bind fun x61 =>
    ((rd h50 q51 10)).bind fun x62 =>
    (rec (x42, x52, x53, x54, x55, (x56.1, x56.2), x57, x58, x59, x60, x61, x62, (IntKind.i64.wrap (x43 + 1)), h50)).bind fun (x63, h64) =>
    (if (x63 != 0) = true then (
    some (.inr (x63, h64)))
    else (
    L60_1 N rec n (x42, x43, x44, x45, x46, x47, x48, (IntKind.i64.wrap (x49 + 1)), h64))))
    else (
    some (.inl (x42, x43, x45, x46, x47, h50))))
noncomputable def L60_0 (N : Nat) (rec : V × Int × Int × Int × Int × (Nat × Nat) × ByteArray × Int × Int × V × V × V × Int × H → Option (Int × H)) : Nat → V × Int × V × Int × Int × H → Option ((H) ⊕ (Int × H))
  | 0, _ => none
  | n + 1, (x74, x75, x76, x77, x78, h79) =>
    (if (decide (x78 < x77)) = true then (
    (sidx x76 x78 1).bind fun q80 =>
    ((rd h79 q80 0)).bind fun x81 =>
    (slen x81).bind fun n82 =>
    (L60_1 N rec N (x74, x75, x81, x76, x77, x78, n82, 0, h79)).bind fun o83 => match o83 with
    | .inl (x84, x85, x86, x87, x88, h89) => (
    L60_0 N rec n (x84, x85, x86, x87, (IntKind.i64.wrap (x88 + 1)), h89))
    | .inr (x90, h91) => (
    some (.inr (x90, h91))))
    else (
    some (.inl h79)))
noncomputable def F60 (N : Nat) : Nat → V × Int × Int × Int × Int × (Nat × Nat) × ByteArray × Int × Int × V × V × V × Int × H → Option (Int × H)
  | 0, _ => none
  | d + 1, (a0, a1_0, a1_1, a1_2, a1_3, a1_4, a1_5, a1_6, a1_7, a1_8, a1_9, a1_10, a2, h) =>
    (nck a0).bind fun _ =>
    (L.asInt .i64 (rd h (padd a0 1) 0)).bind fun x1 =>
    (nck a0).bind fun _ =>
    (wr h (padd a0 1) [(.int .i64 (IntKind.i64.wrap (x1 + 1)))]).bind fun h2 =>
    (nck a0).bind fun _ =>
    (L.asInt .i64 (rd h2 (padd a0 1) 0)).bind fun x3 =>
    (if (decide (x3 > 1024)) = true then (
    some (true, h2))
    else (
    some ((decide (a2 > 64)), h2))).bind fun (b4, h5) =>
    (if b4 = true then (
    some (34, h5))
    else (
    (F67 N (a0, a1_0, a1_1, a1_2, a1_3, (a1_4.1, a1_4.2), a1_5, a1_6, a1_7, a1_8, a1_9, a1_10, h5)).bind fun (x6, h7) =>
    (if (!x6) = true then (
    some (50, h7))
    else (
    (ck1 a1_9).bind fun _ =>
    (ck1 a1_10).bind fun _ =>
    (some (h7 ++ [O.cells 0 [a1_9, a1_10]]) : Option H).bind fun h8 =>
    (slen (.sl (h7).length 0 0 2 1 (some 2))).bind fun n9 =>
    (L60_0 N (F60 N d) N (a0, a2, (.sl (h7).length 0 0 2 1 (some 2)), n9, 0, h8)).bind fun o92 => match o92 with
    | .inl h93 => (
    some (0, h93))
    | .inr (x94, h95) => (
    some (x94, h95))))))
abbrev ks60 : List SK := [.one .ref, .agg [(.int .i64), (.int .i64), (.int .i64), (.int .i64), (.cplx .f64), .str, (.int .i64), (.int .i64), .ref, .ref, .ref], .one (.int .i64)]
abbrev rs60 : List SK := [.one (.int .i64)]
noncomputable def e60 (N d : Nat) : Env := ⟨Try.prog, 59, inTab [4], inTab [], natTab [(4, 4), (31, 4), (33, 4)], inTab [], calTab [(67, .full (mkFun ks67 rs67 (F67 N))), (60, .full (mkFun ks60 rs60 (F60 N d)))], altTab [], loopTab [(7, ⟨⟨.normal, [0, 2, 35, 36, 37], [.one .ref, .one (.int .i64), .one .ref, .one (.int .i64), .one (.int .i64)], [], []⟩, [⟨(.exit 0), [], [], [], []⟩, ⟨.ret, [6], [.one (.int .i64)], [], []⟩], L60_0 N (F60 N d)⟩), (10, ⟨⟨.normal, [0, 2, 8, 35, 36, 37, 42, 43], [.one .ref, .one (.int .i64), .one .ref, .one .ref, .one (.int .i64), .one (.int .i64), .one (.int .i64), .one (.int .i64)], [], []⟩, [⟨(.exit 2), [0, 2, 35, 36, 37], [.one .ref, .one (.int .i64), .one .ref, .one (.int .i64), .one (.int .i64)], [], []⟩, ⟨.ret, [6], [.one (.int .i64)], [], []⟩], L60_1 N (F60 N d)⟩)], natTab []⟩
theorem l60_0 (N d : Nat) : ∀ A, (e60 N d).lp (lid (loopAt Try.f60 0)) = some A → LoopOk (e60 N d) N (loopAt Try.f60 0) A :=
  loopOk_of (A := ⟨⟨.normal, [0, 2, 35, 36, 37], [.one .ref, .one (.int .i64), .one .ref, .one (.int .i64), .one (.int .i64)], [], []⟩, [⟨(.exit 0), [], [], [], []⟩, ⟨.ret, [6], [.one (.int .i64)], [], []⟩], L60_0 N (F60 N d)⟩) (by kernel_rfl) (fun _ => rfl) (fun _ _ => by kernel_rfl)
theorem l60_1 (N d : Nat) : ∀ A, (e60 N d).lp (lid (loopAt Try.f60 1)) = some A → LoopOk (e60 N d) N (loopAt Try.f60 1) A :=
  loopOk_of (A := ⟨⟨.normal, [0, 2, 8, 35, 36, 37, 42, 43], [.one .ref, .one (.int .i64), .one .ref, .one .ref, .one (.int .i64), .one (.int .i64), .one (.int .i64), .one (.int .i64)], [], []⟩, [⟨(.exit 2), [0, 2, 35, 36, 37], [.one .ref, .one (.int .i64), .one .ref, .one (.int .i64), .one (.int .i64)], [], []⟩, ⟨.ret, [6], [.one (.int .i64)], [], []⟩], L60_1 N (F60 N d)⟩) (by kernel_rfl) (fun _ => rfl) (fun _ _ => by kernel_rfl)
theorem fine60 (N d : Nat) : Fine (e60 N d) N 60 Try.f60 ks60 rs60 (F60 N (d + 1)) :=
  ⟨Try.func60, by kernel_rfl, by kernel_rfl, by kernel_rfl, loops_of ⟨l60_0 N d, ⟨l60_1 N d, trivial⟩⟩, by kernel_rfl, by kernel_rfl, fun _ => by kernel_rfl⟩
theorem gd60 (N : Nat) : ∀ d, CalOk Try.prog 60 (.full (mkFun ks60 rs60 (F60 N d)))
  | 0 => fun vs h s he => by obtain ⟨t, _, he⟩ := Option.bind_eq_some_iff.1 he; cases he
  | d + 1 => mkFun_good (fine60 N d) (good_of ⟨gd67 N, ⟨gd60 N d, trivial⟩⟩)
theorem good60 (N d : Nat) : Go.L.Good (e60 N d) := good_of ⟨gd67 N, ⟨gd60 N d, trivial⟩⟩

/-! ### 39: pattern.Check -/
noncomputable def F39 (N : Nat) : Int × Int × Int × Int × (Nat × Nat) × ByteArray × Int × Int × V × V × V × Int × H → Option (Int × H)
  | (a0_0, a0_1, a0_2, a0_3, a0_4, a0_5, a0_6, a0_7, a0_8, a0_9, a0_10, a1, h) =>
    (some (h ++ [O.cells 0 [(.int .i64 0), (.int .i64 0), .nils]]) : Option H).bind fun h1 =>
    (wr h1 (.ptr (h).length 0 0) [(.int .i64 a1), (.int .i64 0), .nils]).bind fun h2 =>
    (F60 N N ((.ptr (h).length 0 0), a0_0, a0_1, a0_2, a0_3, (a0_4.1, a0_4.2), a0_5, a0_6, a0_7, a0_8, a0_9, a0_10, 1, h2)).bind fun (x3, h4) =>
    some (x3, h4)
abbrev ks39 : List SK := [.agg [(.int .i64), (.int .i64), (.int .i64), (.int .i64), (.cplx .f64), .str, (.int .i64), (.int .i64), .ref, .ref, .ref], .one (.int .i64)]
abbrev rs39 : List SK := [.one (.int .i64)]
noncomputable def e39 (N : Nat) : Env := ⟨Try.prog, 10, inTab [2], inTab [], natTab [(2, 2)], inTab [], calTab [(60, .full (mkFun ks60 rs60 (F60 N N)))], altTab [], loopTab [], natTab []⟩
theorem fine39 (N : Nat) : Fine (e39 N) N 39 Try.f39 ks39 rs39 (F39 N) :=
  ⟨Try.func39, by kernel_rfl, by kernel_rfl, by kernel_rfl, loops_of trivial, by kernel_rfl, by kernel_rfl, fun _ => by kernel_rfl⟩
theorem good39 (N : Nat) : Go.L.Good (e39 N) := good_of ⟨gd60 N N, trivial⟩
theorem gd39 (N : Nat) : CalOk Try.prog 39 (.full (mkFun ks39 rs39 (F39 N))) := mkFun_good (fine39 N) (good39 N)

/-! ### 18: term.both -/
noncomputable def F18 (N : Nat) : Int × Int × (Nat × Nat) × ByteArray × Int × Int × V × Int × Int × (Nat × Nat) × ByteArray × Int × Int × V × H → Option (Int × H)
  | (a0_0, a0_1, a0_2, a0_3, a0_4, a0_5, a0_6, a1_0, a1_1, a1_2, a1_3, a1_4, a1_5, a1_6, h) =>
    (F43 N (a0_0, a0_1, (a0_2.1, a0_2.2), a0_3, a0_4, a0_5, a0_6, h)).bind fun (x1, h2) =>
    (if (x1 != 0) = true then (
    some (x1, h2))
    else (
    (F43 N (a1_0, a1_1, (a1_2.1, a1_2.2), a1_3, a1_4, a1_5, a1_6, h2)).bind fun (x3, h4) =>
    some (x3, h4)))
abbrev ks18 : List SK := [.agg [(.int .i64), (.int .i64), (.cplx .f64), .str, (.int .i64), (.int .i64), .ref], .agg [(.int .i64), (.int .i64), (.cplx .f64), .str, (.int .i64), (.int .i64), .ref]]
abbrev rs18 : List SK := [.one (.int .i64)]
noncomputable def e18 (N : Nat) : Env := ⟨Try.prog, 13, inTab [2, 3], inTab [], natTab [(2, 2), (3, 3)], inTab [], calTab [(43, .full (mkFun ks43 rs43 (F43 N)))], altTab [], loopTab [], natTab []⟩
theorem fine18 (N : Nat) : Fine (e18 N) N 18 Try.f18 ks18 rs18 (F18 N) :=
  ⟨Try.func18, by kernel_rfl, by kernel_rfl, by kernel_rfl, loops_of trivial, by kernel_rfl, by kernel_rfl, fun _ => by kernel_rfl⟩
theorem good18 (N : Nat) : Go.L.Good (e18 N) := good_of ⟨gd43 N, trivial⟩
theorem gd18 (N : Nat) : CalOk Try.prog 18 (.full (mkFun ks18 rs18 (F18 N))) := mkFun_good (fine18 N) (good18 N)

/-! ### 48: term.sign -/
noncomputable def F48 (N : Nat) : Bool × Bool × H → Option (Int × H)
  | (a0, a1, h) =>
    (if a1 = true then (
    some (0, h))
    else (
    (if a0 = true then (
    some ((-1), h))
    else (
    some (1, h)))))
abbrev ks48 : List SK := [.one .bool, .one .bool]
abbrev rs48 : List SK := [.one (.int .i64)]
noncomputable def e48 (N : Nat) : Env := ⟨Try.prog, 9, inTab [], inTab [], natTab [], inTab [], calTab [], altTab [], loopTab [], natTab []⟩
theorem fine48 (N : Nat) : Fine (e48 N) N 48 Try.f48 ks48 rs48 (F48 N) :=
  ⟨Try.func48, by kernel_rfl, by kernel_rfl, by kernel_rfl, loops_of trivial, by kernel_rfl, by kernel_rfl, fun _ => by kernel_rfl⟩
theorem good48 (N : Nat) : Go.L.Good (e48 N) := good_of trivial
theorem gd48 : CalOk Try.prog 48 (.pure (mkP ks48 rs48 (F48 100))) := mkP_good (fine48 100) (good48 100) (by kernel_rfl) (by kernel_rfl)

/-! ### 69: bytealg.abigen_runtime_cmpstring -/
set_option maxRecDepth 100000 in
theorem gd69 : CalOk Try.prog 69 (.ext (mkP [.one .str, .one .str] [.one (.int .i64)] cmpX)) := ext_cmp Try.func69 (by kernel_rfl) (by kernel_rfl) (by kernel_rfl) (by kernel_rfl)

/-! ### 64: bytealg.CompareString -/
noncomputable def F64 (N : Nat) : ByteArray × ByteArray × H → Option (Int × H)
  | (a0, a1, h) =>
    (cmpX (a0, a1, [])).bind fun (x1, _) =>
    some (x1, h)
abbrev ks64 : List SK := [.one .str, .one .str]
abbrev rs64 : List SK := [.one (.int .i64)]
noncomputable def e64 (N : Nat) : Env := ⟨Try.prog, 8, inTab [], inTab [], natTab [], inTab [], calTab [(69, .ext (mkP [.one .str, .one .str] [.one (.int .i64)] cmpX))], altTab [], loopTab [], natTab []⟩
theorem fine64 (N : Nat) : Fine (e64 N) N 64 Try.f64 ks64 rs64 (F64 N) :=
  ⟨Try.func64, by kernel_rfl, by kernel_rfl, by kernel_rfl, loops_of trivial, by kernel_rfl, by kernel_rfl, fun _ => by kernel_rfl⟩
theorem good64 (N : Nat) : Go.L.Good (e64 N) := good_of ⟨gd69, trivial⟩
theorem gd64 : CalOk Try.prog 64 (.pure (mkP ks64 rs64 (F64 100))) := mkP_good (fine64 100) (good64 100) (by kernel_rfl) (by kernel_rfl)

/-! ### 49: strings.Compare -/
noncomputable def F49 (N : Nat) : ByteArray × ByteArray × H → Option (Int × H)
  | (a0, a1, h) =>
    (F64 100 (a0, a1, [])).bind fun (x1, _) =>
    some (x1, h)
abbrev ks49 : List SK := [.one .str, .one .str]
abbrev rs49 : List SK := [.one (.int .i64)]
noncomputable def e49 (N : Nat) : Env := ⟨Try.prog, 8, inTab [], inTab [], natTab [], inTab [], calTab [(64, .pure (mkP ks64 rs64 (F64 100)))], altTab [], loopTab [], natTab []⟩
theorem fine49 (N : Nat) : Fine (e49 N) N 49 Try.f49 ks49 rs49 (F49 N) :=
  ⟨Try.func49, by kernel_rfl, by kernel_rfl, by kernel_rfl, loops_of trivial, by kernel_rfl, by kernel_rfl, fun _ => by kernel_rfl⟩
theorem good49 (N : Nat) : Go.L.Good (e49 N) := good_of ⟨gd64, trivial⟩
theorem gd49 : CalOk Try.prog 49 (.pure (mkP ks49 rs49 (F49 100))) := mkP_good (fine49 100) (good49 100) (by kernel_rfl) (by kernel_rfl)

/-! ### 20: term.order -/
noncomputable def L20_0 (N : Nat) (rec : Int × Int × (Nat × Nat) × ByteArray × Int × Int × V × Int × Int × (Nat × Nat) × ByteArray × Int × Int × V × H → Option (Int × H)) : Nat → Int × Int × Int × (Nat × Nat) × ByteArray × Int × Int × V × Int × Int × (Nat × Nat) × ByteArray × Int × Int × V × H → Option ((Int × Int × (Nat × Nat) × ByteArray × Int × Int × V × Int × Int × (Nat × Nat) × ByteArray × Int × Int × V × H) ⊕ (Int × H))
  | 0, _ => none
  | n + 1, (x62, x63, x64, x65, x66, x67, x68, x69, x70, x71, x72, x73, x74, x75, x76, h77) =>
    (slen x69).bind fun n78 =>
    (if (decide (x62 < n78)) = true then (
    (slen x76).bind fun n81 =>
    some ((decide (x62 < n81)), h77))
    else (
    some (false, h77))).bind fun (b79, h80) =>
    (if b79 = true then (
    (sidx x69 x62 7).bind fun q82 =>
    (L.asInt .i64 (rd h80 q82 0)).bind fun x83 =>
    (L.asInt .i64 (rd h80 q82 1)).bind fun x84 =>
    (L.asCplx .f64 (rd h80 q82 2)).bind fun x85 =>
    (L.asStr (rd h80 q82 3)).bind fun x86 =>
    (L.asInt .i64 (rd h80 q82 4)).bind fun x87 =>
    (L.asInt .i64 (rd h80 q82 5)).bind fun x88 =>
    ((rd h80 q82 6)).bind fun x89 =>
    (sidx x76 x62 7).bind fun q90 =>
    (L.asInt .i64 (rd h80 q90 0)).bind fun x91 =>
    (L.asInt .i64 (rd h80 q90 1)).bind fun x92 =>
    (L.asCplx .f64 (rd h80 q90 2)).bind fun x93 =>
    (L.asStr (rd h80 q90 3)).bind fun x94 =>
    (L.asInt .i64 (rd h80 q90 4)).bind fun x95 =>
    (L.asInt .i64 (rd h80 q90 5)).bind fun x96 =>
    ((rd h80 q90 6)).bind fun x97 =>
    (rec (x83, x84, (x85.1, x85.2), x86, x87, x88, x89, x91, x92, (x93.1, x93.2), x94, x95, x96, x97, h80)).bind fun (x98, _) =>
    (if (x98 != 0) = true then (
    some (.inr (x98, h80)))
    else (
    L20_0 N rec n ((IntKind.i64.wrap (x62 + 1)), x63, x64, (x65.1, x65.2), x66, x67, x68, x69, x70, x71, (x72.1, x72.2), x73, x74, x75, x76, h80))))
    else (
    some (.inl (x63, x64, (x65.1, x65.2), x66, x67, x68, x69, x70, x71, (x72.1, x72.2), x73, x74, x75, x76, h80))))
noncomputable def F20 (N : Nat) : Nat → Int × Int × (Nat × Nat) × ByteArray × Int × Int × V × Int × Int × (Nat × Nat) × ByteArray × Int × Int × V × H → Option (Int × H)
  | 0, _ => none
  | d + 1, (a0_0, a0_1, a0_2, a0_3, a0_4, a0_5, a0_6, a1_0, a1_1, a1_2, a1_3, a1_4, a1_5, a1_6, h) =>
    (if (a0_0 != a1_0) = true then (
    (F48 100 ((decide (a0_0 < a1_0)), false, [])).bind fun (x1, _) =>
    some (x1, h))
    else (
    ((if (a0_0 == 2) = true then (
    some (a0_0, (a0_0 == 2), a0_0, a0_1, (a0_2.1, a0_2.2), a0_3, a0_4, a0_5, a0_6, a1_0, a1_1, (a1_2.1, a1_2.2), a1_3, a1_4, a1_5, a1_6, h))
    else (
    (if (a0_0 == 3) = true then (
    some (a0_0, (a0_0 == 3), a0_0, a0_1, (a0_2.1, a0_2.2), a0_3, a0_4, a0_5, a0_6, a1_0, a1_1, (a1_2.1, a1_2.2), a1_3, a1_4, a1_5, a1_6, h))
    else (
    some (a0_0, (a0_0 == 7), a0_0, a0_1, (a0_2.1, a0_2.2), a0_3, a0_4, a0_5, a0_6, a1_0, a1_1, (a1_2.1, a1_2.2), a1_3, a1_4, a1_5, a1_6, h))))) : Option (Int × Bool × Int × Int × (Nat × Nat) × ByteArray × Int × Int × V × Int × Int × (Nat × Nat) × ByteArray × Int × Int × V × H)).bind fun (x2, x3, x4, x5, x6, x7, x8, x9, x10, x11, x12, x13, x14, x15, x16, x17, h18) =>
    (if x3 = true then (
    (F48 100 ((decide (x5 < x12)), (x5 == x12), [])).bind fun (x19, _) =>
    some (x19, h18))
    else (
    (if (x2 == 4) = true then (
    (if ((FloatKind.f64.format.order x6.1 x13.1) != some .eq) = true then (
    (F48 100 (((FloatKind.f64.format.order x6.1 x13.1) == some .lt), false, [])).bind fun (x20, _) =>
    some (x20, h18))
    else (
    (F48 100 (((FloatKind.f64.format.order x6.2 x13.2) == some .lt), (Op.floatEq .f64 x6.1 x13.1 && Op.floatEq .f64 x6.2 x13.2), [])).bind fun (x21, _) =>
    some (x21, h18))))
    else (
    (if (x2 == 5) = true then (
    (F49 100 (x7, x14, [])).bind fun (x22, _) =>
    some (x22, h18))
    else (
    (if (x2 == 6) = true then (
    (if (x8 != x15) = true then (
    (F48 100 ((decide (x8 < x15)), false, [])).bind fun (x23, _) =>
    some (x23, h18))
    else (
    (F48 100 ((decide (x9 < x16)), ((x8 == x15) && ((x9 == x16) && true)), [])).bind fun (x24, _) =>
    some (x24, h18))))
    else (
    (L20_0 N (F20 N d) N (0, x4, x5, (x6.1, x6.2), x7, x8, x9, x10, x11, x12, (x13.1, x13.2), x14, x15, x16, x17, h18)).bind fun o99 => match o99 with
    | .inl (x100, x101, x102, x103, x104, x105, x106, x107, x108, x109, x110, x111, x112, x113, h114) => (
    (slen x106).bind fun n115 =>
    (slen x113).bind fun n116 =>
    (slen x106).bind fun n117 =>
    (slen x113).bind fun n118 =>
    (F48 100 ((decide (n115 < n116)), (n117 == n118), [])).bind fun (x119, _) =>
    some (x119, h114))
    | .inr (x120, h121) => (
    some (x120, h121))))))))))))
abbrev ks20 : List SK := [.agg [(.int .i64), (.int .i64), (.cplx .f64), .str, (.int .i64), (.int .i64), .ref], .agg [(.int .i64), (.int .i64), (.cplx .f64), .str, (.int .i64), (.int .i64), .ref]]
abbrev rs20 : List SK := [.one (.int .i64)]
noncomputable def e20 (N d : Nat) : Env := ⟨Try.prog, 145, inTab [2, 3], inTab [], natTab [(2, 2), (3, 3), (7, 2), (9, 3), (12, 2), (14, 3), (18, 2), (24, 2), (26, 3), (29, 2), (31, 3), (37, 2), (40, 3), (44, 2), (47, 3), (52, 2), (55, 3), (59, 2), (61, 3), (67, 2), (69, 3), (74, 2), (75, 2), (77, 3), (78, 3), (81, 2), (82, 2), (84, 3), (85, 3), (89, 2), (90, 2), (92, 3), (93, 3), (96, 2), (98, 3), (103, 2), (109, 3), (116, 2), (121, 3), (130, 2), (133, 3), (137, 2), (140, 3)], inTab [], calTab [(48, .pure (mkP ks48 rs48 (F48 100))), (49, .pure (mkP ks49 rs49 (F49 100))), (20, .ro (mkFun ks20 rs20 (F20 N d)))], altTab [(1342177300, [⟨.normal, [2, 3, 19, 20], [.lp 2 0, .lp 3 0, .one (.int .i64), .one .bool], [2, 3], [.cells [(.int .i64), (.int .i64), (.cplx .f64), .str, (.int .i64), (.int .i64), .ref], .cells [(.int .i64), (.int .i64), (.cplx .f64), .str, (.int .i64), (.int .i64), .ref]]⟩])], loopTab [(19, ⟨⟨.normal, [2, 3, 5], [.lp 2 0, .lp 3 0, .one (.int .i64)], [2, 3], [.cells [(.int .i64), (.int .i64), (.cplx .f64), .str, (.int .i64), (.int .i64), .ref], .cells [(.int .i64), (.int .i64), (.cplx .f64), .str, (.int .i64), (.int .i64), .ref]]⟩, [⟨(.exit 1), [2, 3], [.lp 2 0, .lp 3 0], [2, 3], [.cells [(.int .i64), (.int .i64), (.cplx .f64), .str, (.int .i64), (.int .i64), .ref], .cells [(.int .i64), (.int .i64), (.cplx .f64), .str, (.int .i64), (.int .i64), .ref]]⟩, ⟨.ret, [4], [.one (.int .i64)], [], []⟩], L20_0 N (F20 N d)⟩)], natTab []⟩
theorem l20_0 (N d : Nat) : ∀ A, (e20 N d).lp (lid (loopAt Try.f20 0)) = some A → LoopOk (e20 N d) N (loopAt Try.f20 0) A :=
  loopOk_of (A := ⟨⟨.normal, [2, 3, 5], [.lp 2 0, .lp 3 0, .one (.int .i64)], [2, 3], [.cells [(.int .i64), (.int .i64), (.cplx .f64), .str, (.int .i64), (.int .i64), .ref], .cells [(.int .i64), (.int .i64), (.cplx .f64), .str, (.int .i64), (.int .i64), .ref]]⟩, [⟨(.exit 1), [2, 3], [.lp 2 0, .lp 3 0], [2, 3], [.cells [(.int .i64), (.int .i64), (.cplx .f64), .str, (.int .i64), (.int .i64), .ref], .cells [(.int .i64), (.int .i64), (.cplx .f64), .str, (.int .i64), (.int .i64), .ref]]⟩, ⟨.ret, [4], [.one (.int .i64)], [], []⟩], L20_0 N (F20 N d)⟩) (by kernel_rfl) (fun _ => rfl) (fun _ _ => by kernel_rfl)
theorem fine20 (N d : Nat) : Fine (e20 N d) N 20 Try.f20 ks20 rs20 (F20 N (d + 1)) :=
  ⟨Try.func20, by kernel_rfl, by kernel_rfl, by kernel_rfl, loops_of ⟨l20_0 N d, trivial⟩, by kernel_rfl, by kernel_rfl, fun _ => by kernel_rfl⟩
theorem gd20 (N : Nat) : ∀ d, CalOk Try.prog 20 (.ro (mkFun ks20 rs20 (F20 N d)))
  | 0 => fun vs h s he => by obtain ⟨t, _, he⟩ := Option.bind_eq_some_iff.1 he; cases he
  | d + 1 => mkFun_ro (fine20 N d) (good_of ⟨gd48, ⟨gd49, ⟨gd20 N d, trivial⟩⟩⟩) (by kernel_rfl)
theorem good20 (N d : Nat) : Go.L.Good (e20 N d) := good_of ⟨gd48, ⟨gd49, ⟨gd20 N d, trivial⟩⟩⟩

/-! ### 37: term.Compare -/
noncomputable def F37 (N : Nat) : Int × Int × (Nat × Nat) × ByteArray × Int × Int × V × Int × Int × (Nat × Nat) × ByteArray × Int × Int × V × H → Option (Int × Int × H)
  | (a0_0, a0_1, a0_2, a0_3, a0_4, a0_5, a0_6, a1_0, a1_1, a1_2, a1_3, a1_4, a1_5, a1_6, h) =>
    (F18 N (a0_0, a0_1, (a0_2.1, a0_2.2), a0_3, a0_4, a0_5, a0_6, a1_0, a1_1, (a1_2.1, a1_2.2), a1_3, a1_4, a1_5, a1_6, h)).bind fun (x1, h2) =>
    (if (x1 != 0) = true then (
    some (0, x1, h2))
    else (
    (F20 N N (a0_0, a0_1, (a0_2.1, a0_2.2), a0_3, a0_4, a0_5, a0_6, a1_0, a1_1, (a1_2.1, a1_2.2), a1_3, a1_4, a1_5, a1_6, h2)).bind fun (x3, _) =>
    some (x3, 0, h2)))
abbrev ks37 : List SK := [.agg [(.int .i64), (.int .i64), (.cplx .f64), .str, (.int .i64), (.int .i64), .ref], .agg [(.int .i64), (.int .i64), (.cplx .f64), .str, (.int .i64), (.int .i64), .ref]]
abbrev rs37 : List SK := [.one (.int .i64), .one (.int .i64)]
noncomputable def e37 (N : Nat) : Env := ⟨Try.prog, 16, inTab [2, 3], inTab [], natTab [(2, 2), (3, 3)], inTab [], calTab [(18, .full (mkFun ks18 rs18 (F18 N))), (20, .ro (mkFun ks20 rs20 (F20 N N)))], altTab [], loopTab [], natTab []⟩
theorem fine37 (N : Nat) : Fine (e37 N) N 37 Try.f37 ks37 rs37 (F37 N) :=
  ⟨Try.func37, by kernel_rfl, by kernel_rfl, by kernel_rfl, loops_of trivial, by kernel_rfl, by kernel_rfl, fun _ => by kernel_rfl⟩
theorem good37 (N : Nat) : Go.L.Good (e37 N) := good_of ⟨gd18 N, ⟨gd20 N N, trivial⟩⟩
theorem gd37 (N : Nat) : CalOk Try.prog 37 (.full (mkFun ks37 rs37 (F37 N))) := mkFun_good (fine37 N) (good37 N)

/-! ### 61: pattern.match -/
noncomputable def L61_0 (N : Nat) (rec : Int × Int × Int × Int × (Nat × Nat) × ByteArray × Int × Int × V × V × V × Int × Int × (Nat × Nat) × ByteArray × Int × Int × V × V × H → Option (V × Bool × H)) : Nat → V × Int × Int × Int × Int × Int × Int × (Nat × Nat) × ByteArray × Int × Int × V × V × V × Int × Int × (Nat × Nat) × ByteArray × Int × Int × V × H → Option ((V × Int × Int × Int × Int × (Nat × Nat) × ByteArray × Int × Int × V × V × V × Int × Int × (Nat × Nat) × ByteArray × Int × Int × V × H) ⊕ (V × Bool × H))
  | 0, _ => none
  | n + 1, (x88, x89, x90, x91, x92, x93, x94, x95, x96, x97, x98, x99, x100, x101, x102, x103, x104, x105, x106, x107, x108, h109) =>
    (if (decide (x90 < x89)) = true then (
    (sidx x100 x90 11).bind fun q110 =>
    (L.asInt .i64 (rd h109 q110 0)).bind fun x111 =>
    (L.asInt .i64 (rd h109 q110 1)).bind fun x112 =>
    (L.asInt .i64 (rd h109 q110 2)).bind fun x113 =>
    (L.asInt .i64 (rd h109 q110 3)).bind fun x114 =>
    (L.asCplx .f64 (rd h109 q110 4)).bind fun x115 =>
    (L.asStr (rd h109 q110 5)).bind fun x116 =>
    (L.asInt .i64 (rd h109 q110 6)).bind fun x117 =>
    (L.asInt .i64 (rd h109 q110 7)).bind fun x118 =>
    ((rd h109 q110 8)).bind fun x119 =>
    ((rd h109 q110 9)).bind fun x120 =>
    ((rd h109 q110 10)).bind fun x121 =>
    (sidx x108 x90 7).bind fun q122 =>
    (L.asInt .i64 (rd h109 q122 0)).bind fun x123 =>
    (L.asInt .i64 (rd h109 q122 1)).bind fun x124 =>
    (L.asCplx .f64 (rd h109 q122 2)).bind fun x125 =>
    (L.asStr (rd h109 q122 3)).bind fun x126 =>
    (L.asInt .i64 (rd h109 q122 4)).bind fun x127 =>
    (L.asInt .i64 (rd h109 q122 5)).bind fun x128 =>
    ((rd h109 q122 6)).bind fun x129 =>
    (rec (x111, x112, x113, x114, (x115.1, x115.2), x116, x117, x118, x119, x120, x121, x123, x124, (x125.1, x125.2), x126, x127, x128, x129, x88, h109)).bind fun (x130, x131, h132) =>
    (if (!x131) = true then (
    some (.inr (.nils, false, h132)))
    else (
    L61_0 N rec n (x130, x89, (IntKind.i64.wrap (x90 + 1)), x91, x92, x93, x94, (x95.1, x95.2), x96, x97, x98, x99, x100, x101, x102, x103, (x104.1, x104.2), x105, x106, x107, x108, h132))))
    else (
    some (.inl (x88, x91, x92, x93, x94, (x95.1, x95.2), x96, x97, x98, x99, x100, x101, x102, x103, (x104.1, x104.2), x105, x106, x107, x108, h109))))
noncomputable def F61 (N : Nat) : Nat → Int × Int × Int × Int × (Nat × Nat) × ByteArray × Int × Int × V × V × V × Int × Int × (Nat × Nat) × ByteArray × Int × Int × V × V × H → Option (V × Bool × H)
  | 0, _ => none
  | d + 1, (a0_0, a0_1, a0_2, a0_3, a0_4, a0_5, a0_6, a0_7, a0_8, a0_9, a0_10, a1_0, a1_1, a1_2, a1_3, a1_4, a1_5, a1_6, a2, h) =>
    ((if (a0_0 == 1) = true then (
    some (.inr (a2, true, h)))
    else (
    (if (a0_0 == 2) = true then (
    (happ h a2 8 1 [(.int .i64 a0_1), (.int .i64 a1_0), (.int .i64 a1_1), (.cplx .f64 a1_2.1 a1_2.2), (.str a1_3), (.int .i64 a1_4), (.int .i64 a1_5), a1_6]).bind fun (v1, h2) =>
    some (.inr (v1, true, h2)))
    else (
    (if (a0_0 == 3) = true then (
    (F37 N (a0_2, a0_3, (a0_4.1, a0_4.2), a0_5, a0_6, a0_7, a0_8, a1_0, a1_1, (a1_2.1, a1_2.2), a1_3, a1_4, a1_5, a1_6, h)).bind fun (x3, x4, h5) =>
    some (.inr (a2, (x3 == 0), h5)))
    else (
    (if (a0_0 == 4) = true then (
    some (.inr (a2, (a1_0 == a0_1), h)))
    else (
    (if (a0_0 == 5) = true then (
    (if (a1_0 != 8) = true then (
    some (true, h))
    else (
    (slen a1_6).bind fun n8 =>
    (slen a0_9).bind fun n9 =>
    some ((n8 != n9), h))).bind fun (b6, h7) =>
    (if b6 = true then (
    some (.inr (.nils, false, h7)))
    else (
    some (.inl (a2, a0_0, a0_1, a0_2, a0_3, (a0_4.1, a0_4.2), a0_5, a0_6, a0_7, a0_8, a0_9, a0_10, a1_0, a1_1, (a1_2.1, a1_2.2), a1_3, a1_4, a1_5, a1_6, h7)))))
    else (
    (if (a0_0 == 6) = true then (
    (if (a1_0 != 9) = true then (
    some (true, h))
    else (
    (slen a1_6).bind fun n12 =>
    (slen a0_9).bind fun n13 =>
    some ((decide (n12 < n13)), h))).bind fun (b10, h11) =>
    (if b10 = true then (
    some (true, h11))
    else (
    (slen a0_10).bind fun n16 =>
    (if (n16 == 0) = true then (
    (slen a1_6).bind fun n19 =>
    (slen a0_9).bind fun n20 =>
    some ((decide (n19 > n20)), h11))
    else (
    some (false, h11))).bind fun (b17, h18) =>
    some (b17, h18))).bind fun (b14, h15) =>
    (if b14 = true then (
    some (.inr (.nils, false, h15)))
    else (
    some (.inl (a2, a0_0, a0_1, a0_2, a0_3, (a0_4.1, a0_4.2), a0_5, a0_6, a0_7, a0_8, a0_9, a0_10, a1_0, a1_1, (a1_2.1, a1_2.2), a1_3, a1_4, a1_5, a1_6, h15)))))
    else (
    some (.inl (a2, a0_0, a0_1, a0_2, a0_3, (a0_4.1, a0_4.2), a0_5, a0_6, a0_7, a0_8, a0_9, a0_10, a1_0, a1_1, (a1_2.1, a1_2.2), a1_3, a1_4, a1_5, a1_6, h)))))))))))))) : Option ((V × Int × Int × Int × Int × (Nat × Nat) × ByteArray × Int × Int × V × V × V × Int × Int × (Nat × Nat) × ByteArray × Int × Int × V × H) ⊕ (V × Bool × H))).bind fun o21 => match o21 with
    | .inl (x22, x23, x24, x25, x26, x27, x28, x29, x30, x31, x32, x33, x34, x35, x36, x37, x38, x39, x40, h41) => (
    (slen x32).bind fun n42 =>
    (L61_0 N (F61 N d) N (x22, n42, 0, x23, x24, x25, x26, (x27.1, x27.2), x28, x29, x30, x31, x32, x33, x34, x35, (x36.1, x36.2), x37, x38, x39, x40, h41)).bind fun o133 => match o133 with
    | .inl (x134, x135, x136, x137, x138, x139, x140, x141, x142, x143, x144, x145, x146, x147, x148, x149, x150, x151, x152, h153) => (
    (slen x145).bind fun n154 =>
    (if (n154 == 1) = true then (
    (some (h153 ++ [O.cells 0 []]) : Option H).bind fun h155 =>
    (slen x144).bind fun n156 =>
    (slen x152).bind fun n157 =>
    (ssl 7 x152 n156 n157).bind fun v158 =>
    (scells h155 v158 7).bind fun cs161 =>
    (happ h155 (.sl (h153).length 0 0 0 7 (some 0)) 7 (snlen v158) cs161).bind fun (v159, h160) =>
    (sidx x145 0 11).bind fun q162 =>
    (L.asInt .i64 (rd h160 q162 0)).bind fun x163 =>
    (L.asInt .i64 (rd h160 q162 1)).bind fun x164 =>
    (L.asInt .i64 (rd h160 q162 2)).bind fun x165 =>
    (L.asInt .i64 (rd h160 q162 3)).bind fun x166 =>
    (L.asCplx .f64 (rd h160 q162 4)).bind fun x167 =>
    (L.asStr (rd h160 q162 5)).bind fun x168 =>
    (L.asInt .i64 (rd h160 q162 6)).bind fun x169 =>
    (L.asInt .i64 (rd h160 q162 7)).bind fun x170 =>
    ((rd h160 q162 8)).bind fun x171 =>
    ((rd h160 q162 9)).bind fun x172 =>
    ((rd h160 q162 10)).bind fun x173 =>
    (ck1 v159).bind fun _ =>
    (F61 N d (x163, x164, x165, x166, (x167.1, x167.2), x168, x169, x170, x171, x172, x173, 9, 0, (0, 0), (ByteArray.mk #[]), 0, 0, v159, x134, h160)).bind fun (x174, x175, h176) =>
    some (x174, x175, h176))
    else (
    some (x134, true, h153))))
    | .inr (x177, x178, h179) => (
    some (x177, x178, h179)))
    | .inr (x180, x181, h182) => (
    some (x180, x181, h182))
abbrev ks61 : List SK := [.agg [(.int .i64), (.int .i64), (.int .i64), (.int .i64), (.cplx .f64), .str, (.int .i64), (.int .i64), .ref, .ref, .ref], .agg [(.int .i64), (.int .i64), (.cplx .f64), .str, (.int .i64), (.int .i64), .ref], .one .ref]
abbrev rs61 : List SK := [.one .ref, .one .bool]
noncomputable def e61 (N d : Nat) : Env := ⟨Try.prog, 137, inTab [3, 4, 25], inTab [], natTab [(3, 3), (4, 4), (13, 3), (21, 3), (30, 3), (42, 4), (44, 3), (49, 4), (53, 4), (56, 3), (63, 4), (67, 4), (70, 3), (76, 3), (81, 4), (84, 3), (90, 3), (97, 3), (102, 4), (114, 3), (119, 4), (121, 3), (126, 3)], inTab [], calTab [(37, .full (mkFun ks37 rs37 (F37 N))), (61, .full (mkFun ks61 rs61 (F61 N d)))], altTab [(1073938447, [⟨.normal, [2, 3, 4], [.one .ref, .lp 3 0, .lp 4 0], [3, 4], [.cells [(.int .i64), (.int .i64), (.int .i64), (.int .i64), (.cplx .f64), .str, (.int .i64), (.int .i64), .ref, .ref, .ref], .cells [(.int .i64), (.int .i64), (.cplx .f64), .str, (.int .i64), (.int .i64), .ref]]⟩, ⟨.ret, [6, 7], [.one .ref, .one .bool], [], []⟩])], loopTab [(19, ⟨⟨.normal, [2, 3, 4, 92, 93], [.one .ref, .lp 3 0, .lp 4 0, .one (.int .i64), .one (.int .i64)], [3, 4], [.cells [(.int .i64), (.int .i64), (.int .i64), (.int .i64), (.cplx .f64), .str, (.int .i64), (.int .i64), .ref, .ref, .ref], .cells [(.int .i64), (.int .i64), (.cplx .f64), .str, (.int .i64), (.int .i64), .ref]]⟩, [⟨(.exit 1), [2, 3, 4], [.one .ref, .lp 3 0, .lp 4 0], [3, 4], [.cells [(.int .i64), (.int .i64), (.int .i64), (.int .i64), (.cplx .f64), .str, (.int .i64), (.int .i64), .ref, .ref, .ref], .cells [(.int .i64), (.int .i64), (.cplx .f64), .str, (.int .i64), (.int .i64), .ref]]⟩, ⟨.ret, [6, 7], [.one .ref, .one .bool], [], []⟩], L61_0 N (F61 N d)⟩)], natTab []⟩
theorem l61_0 (N d : Nat) : ∀ A, (e61 N d).lp (lid (loopAt Try.f61 0)) = some A → LoopOk (e61 N d) N (loopAt Try.f61 0) A :=
  loopOk_of (A := ⟨⟨.normal, [2, 3, 4, 92, 93], [.one .ref, .lp 3 0, .lp 4 0, .one (.int .i64), .one (.int .i64)], [3, 4], [.cells [(.int .i64), (.int .i64), (.int .i64), (.int .i64), (.cplx .f64), .str, (.int .i64), (.int .i64), .ref, .ref, .ref], .cells [(.int .i64), (.int .i64), (.cplx .f64), .str, (.int .i64), (.int .i64), .ref]]⟩, [⟨(.exit 1), [2, 3, 4], [.one .ref, .lp 3 0, .lp 4 0], [3, 4], [.cells [(.int .i64), (.int .i64), (.int .i64), (.int .i64), (.cplx .f64), .str, (.int .i64), (.int .i64), .ref, .ref, .ref], .cells [(.int .i64), (.int .i64), (.cplx .f64), .str, (.int .i64), (.int .i64), .ref]]⟩, ⟨.ret, [6, 7], [.one .ref, .one .bool], [], []⟩], L61_0 N (F61 N d)⟩) (by kernel_rfl) (fun _ => rfl) (fun _ _ => by kernel_rfl)
theorem fine61 (N d : Nat) : Fine (e61 N d) N 61 Try.f61 ks61 rs61 (F61 N (d + 1)) :=
  ⟨Try.func61, by kernel_rfl, by kernel_rfl, by kernel_rfl, loops_of ⟨l61_0 N d, trivial⟩, by kernel_rfl, by kernel_rfl, fun _ => by kernel_rfl⟩
theorem gd61 (N : Nat) : ∀ d, CalOk Try.prog 61 (.full (mkFun ks61 rs61 (F61 N d)))
  | 0 => fun vs h s he => by obtain ⟨t, _, he⟩ := Option.bind_eq_some_iff.1 he; cases he
  | d + 1 => mkFun_good (fine61 N d) (good_of ⟨gd37 N, ⟨gd61 N d, trivial⟩⟩)
theorem good61 (N d : Nat) : Go.L.Good (e61 N d) := good_of ⟨gd37 N, ⟨gd61 N d, trivial⟩⟩

/-! ### 40: pattern.First -/
noncomputable def L40_0 (N : Nat) : Nat → V × Int × V × Int × Int × H → Option ((V × Int × V × H) ⊕ (Int × Int × V × Int × H))
  | 0, _ => none
  | n + 1, (x22, x23, x24, x25, x26, h27) =>
    (if (decide (x26 < x25)) = true then (
    (sidx x24 x26 11).bind fun q28 =>
    (L.asInt .i64 (rd h27 q28 0)).bind fun x29 =>
    (L.asInt .i64 (rd h27 q28 1)).bind fun x30 =>
    (L.asInt .i64 (rd h27 q28 2)).bind fun x31 =>
    (L.asInt .i64 (rd h27 q28 3)).bind fun x32 =>
    (L.asCplx .f64 (rd h27 q28 4)).bind fun x33 =>
    (L.asStr (rd h27 q28 5)).bind fun x34 =>
    (L.asInt .i64 (rd h27 q28 6)).bind fun x35 =>
    (L.asInt .i64 (rd h27 q28 7)).bind fun x36 =>
    ((rd h27 q28 8)).bind fun x37 =>
    ((rd h27 q28 9)).bind fun x38 =>
    ((rd h27 q28 10)).bind fun x39 =>
    (F39 N (x29, x30, x31, x32, (x33.1, x33.2), x34, x35, x36, x37, x38, x39, 32, h27)).bind fun (x40, h41) =>
    (if (x40 != 0) = true then (
    some (.inr (0, 0, .nils, x40, h41)))
    else (
    L40_0 N n (x22, x23, x24, x25, (IntKind.i64.wrap (x26 + 1)), h41))))
    else (
    some (.inl (x22, x23, x24, h27))))
noncomputable def L40_1 (N : Nat) : Nat → V × Int × V × Int × Int × H → Option ((V × Int × V × H) ⊕ (Int × Int × V × Int × H))
  | 0, _ => none
  | n + 1, (x64, x65, x66, x67, x68, h69) =>
    (if (decide (x68 < x67)) = true then (
    (sidx x64 x68 7).bind fun q70 =>
    (L.asInt .i64 (rd h69 q70 0)).bind fun x71 =>
    (L.asInt .i64 (rd h69 q70 1)).bind fun x72 =>
    (L.asCplx .f64 (rd h69 q70 2)).bind fun x73 =>
    (L.asStr (rd h69 q70 3)).bind fun x74 =>
    (L.asInt .i64 (rd h69 q70 4)).bind fun x75 =>
    (L.asInt .i64 (rd h69 q70 5)).bind fun x76 =>
    ((rd h69 q70 6)).bind fun x77 =>
    (F43 N (x71, x72, (x73.1, x73.2), x74, x75, x76, x77, h69)).bind fun (x78, h79) =>
    (if (x78 != 0) = true then (
    some (.inr (0, 0, .nils, x78, h79)))
    else (
    L40_1 N n (x64, x65, x66, x67, (IntKind.i64.wrap (x68 + 1)), h79))))
    else (
    some (.inl (x64, x65, x66, h69))))
noncomputable def L40_3 (N : Nat) : Nat → V × V × Int × Int × Int × H → Option ((V × V × Int × H) ⊕ (Int × Int × V × Int × H))
  | 0, _ => none
  | n + 1, (x120, x121, x122, x123, x124, h125) =>
    (if (decide (x124 < x123)) = true then (
    (sidx x121 x124 11).bind fun q126 =>
    (L.asInt .i64 (rd h125 q126 0)).bind fun x127 =>
    (L.asInt .i64 (rd h125 q126 1)).bind fun x128 =>
    (L.asInt .i64 (rd h125 q126 2)).bind fun x129 =>
    (L.asInt .i64 (rd h125 q126 3)).bind fun x130 =>
    (L.asCplx .f64 (rd h125 q126 4)).bind fun x131 =>
    (L.asStr (rd h125 q126 5)).bind fun x132 =>
    (L.asInt .i64 (rd h125 q126 6)).bind fun x133 =>
    (L.asInt .i64 (rd h125 q126 7)).bind fun x134 =>
    ((rd h125 q126 8)).bind fun x135 =>
    ((rd h125 q126 9)).bind fun x136 =>
    ((rd h125 q126 10)).bind fun x137 =>
    (sidx x120 x122 7).bind fun q138 =>
    (L.asInt .i64 (rd h125 q138 0)).bind fun x139 =>
    (L.asInt .i64 (rd h125 q138 1)).bind fun x140 =>
    (L.asCplx .f64 (rd h125 q138 2)).bind fun x141 =>
    (L.asStr (rd h125 q138 3)).bind fun x142 =>
    (L.asInt .i64 (rd h125 q138 4)).bind fun x143 =>
    (L.asInt .i64 (rd h125 q138 5)).bind fun x144 =>
    ((rd h125 q138 6)).bind fun x145 =>
    (F61 N N (x127, x128, x129, x130, (x131.1, x131.2), x132, x133, x134, x135, x136, x137, x139, x140, (x141.1, x141.2), x142, x143, x144, x145, .nils, h125)).bind fun (x146, x147, h148) =>
    (if x147 = true then (
    some (.inr (x122, x124, x146, 0, h148)))
    else (
    L40_3 N n (x120, x121, x122, x123, (IntKind.i64.wrap (x124 + 1)), h148))))
    else (
    some (.inl (x120, x121, x122, h125))))
noncomputable def L40_2 (N : Nat) : Nat → V × V × Int × H → Option ((H) ⊕ (Int × Int × V × Int × H))
  | 0, _ => none
  | n + 1, (x159, x160, x161, h162) =>
    (slen x159).bind fun n163 =>
    (if (decide (x161 < n163)) = true then (
    (slen x160).bind fun n164 =>
    (L40_3 N N (x159, x160, x161, n164, 0, h162)).bind fun o165 => match o165 with
    | .inl (x166, x167, x168, h169) => (
    L40_2 N n (x166, x167, (IntKind.i64.wrap (x168 + 1)), h169))
    | .inr (x170, x171, x172, x173, h174) => (
    some (.inr (x170, x171, x172, x173, h174))))
    else (
    some (.inl h162)))
noncomputable def F40 (N : Nat) : V × Int × V × H → Option (Int × Int × V × Int × H)
  | (a0, a1, a2, h) =>
    (slen a2).bind fun n1 =>
    (L40_0 N N (a0, a1, a2, n1, 0, h)).bind fun o42 => match o42 with
    | .inl (x43, x44, x45, h46) => (
    (slen x43).bind fun n47 =>
    (L40_1 N N (x43, x44, x45, n47, 0, h46)).bind fun o80 => match o80 with
    | .inl (x81, x82, x83, h84) => (
    (if (decide (x82 < 0)) = true then (
    some (0, 0, .nils, 1, h84))
    else (
    (L40_2 N N (x81, x83, x82, h84)).bind fun o175 => match o175 with
    | .inl h176 => (
    some (0, 0, .nils, 3, h176))
    | .inr (x177, x178, x179, x180, h181) => (
    some (x177, x178, x179, x180, h181)))))
    | .inr (x182, x183, x184, x185, h186) => (
    some (x182, x183, x184, x185, h186)))
    | .inr (x187, x188, x189, x190, h191) => (
    some (x187, x188, x189, x190, h191))
abbrev ks40 : List SK := [.one .ref, .one (.int .i64), .one .ref]
abbrev rs40 : List SK := [.one (.int .i64), .one (.int .i64), .one .ref, .one (.int .i64)]
noncomputable def e40 (N : Nat) : Env := ⟨Try.prog, 73, inTab [], inTab [], natTab [], inTab [], calTab [(39, .full (mkFun ks39 rs39 (F39 N))), (43, .full (mkFun ks43 rs43 (F43 N))), (61, .full (mkFun ks61 rs61 (F61 N N)))], altTab [], loopTab [(2, ⟨⟨.normal, [0, 1, 2, 15, 16], [.one .ref, .one (.int .i64), .one .ref, .one (.int .i64), .one (.int .i64)], [], []⟩, [⟨(.exit 0), [0, 1, 2], [.one .ref, .one (.int .i64), .one .ref], [], []⟩, ⟨.ret, [6, 7, 8, 9], [.one (.int .i64), .one (.int .i64), .one .ref, .one (.int .i64)], [], []⟩], L40_0 N⟩), (9, ⟨⟨.normal, [0, 1, 2, 29, 30], [.one .ref, .one (.int .i64), .one .ref, .one (.int .i64), .one (.int .i64)], [], []⟩, [⟨(.exit 2), [0, 1, 2], [.one .ref, .one (.int .i64), .one .ref], [], []⟩, ⟨.ret, [6, 7, 8, 9], [.one (.int .i64), .one (.int .i64), .one .ref, .one (.int .i64)], [], []⟩], L40_1 N⟩), (18, ⟨⟨.normal, [0, 2, 6], [.one .ref, .one .ref, .one (.int .i64)], [], []⟩, [⟨(.exit 4), [], [], [], []⟩, ⟨.ret, [6, 7, 8, 9], [.one (.int .i64), .one (.int .i64), .one .ref, .one (.int .i64)], [], []⟩], L40_2 N⟩), (21, ⟨⟨.normal, [0, 2, 6, 52, 53], [.one .ref, .one .ref, .one (.int .i64), .one (.int .i64), .one (.int .i64)], [], []⟩, [⟨(.exit 6), [0, 2, 6], [.one .ref, .one .ref, .one (.int .i64)], [], []⟩, ⟨.ret, [6, 7, 8, 9], [.one (.int .i64), .one (.int .i64), .one .ref, .one (.int .i64)], [], []⟩], L40_3 N⟩)], natTab []⟩
theorem l40_0 (N : Nat) : ∀ A, (e40 N).lp (lid (loopAt Try.f40 0)) = some A → LoopOk (e40 N) N (loopAt Try.f40 0) A :=
  loopOk_of (A := ⟨⟨.normal, [0, 1, 2, 15, 16], [.one .ref, .one (.int .i64), .one .ref, .one (.int .i64), .one (.int .i64)], [], []⟩, [⟨(.exit 0), [0, 1, 2], [.one .ref, .one (.int .i64), .one .ref], [], []⟩, ⟨.ret, [6, 7, 8, 9], [.one (.int .i64), .one (.int .i64), .one .ref, .one (.int .i64)], [], []⟩], L40_0 N⟩) (by kernel_rfl) (fun _ => rfl) (fun _ _ => by kernel_rfl)
theorem l40_1 (N : Nat) : ∀ A, (e40 N).lp (lid (loopAt Try.f40 1)) = some A → LoopOk (e40 N) N (loopAt Try.f40 1) A :=
  loopOk_of (A := ⟨⟨.normal, [0, 1, 2, 29, 30], [.one .ref, .one (.int .i64), .one .ref, .one (.int .i64), .one (.int .i64)], [], []⟩, [⟨(.exit 2), [0, 1, 2], [.one .ref, .one (.int .i64), .one .ref], [], []⟩, ⟨.ret, [6, 7, 8, 9], [.one (.int .i64), .one (.int .i64), .one .ref, .one (.int .i64)], [], []⟩], L40_1 N⟩) (by kernel_rfl) (fun _ => rfl) (fun _ _ => by kernel_rfl)
theorem l40_2 (N : Nat) : ∀ A, (e40 N).lp (lid (loopAt Try.f40 2)) = some A → LoopOk (e40 N) N (loopAt Try.f40 2) A :=
  loopOk_of (A := ⟨⟨.normal, [0, 2, 6], [.one .ref, .one .ref, .one (.int .i64)], [], []⟩, [⟨(.exit 4), [], [], [], []⟩, ⟨.ret, [6, 7, 8, 9], [.one (.int .i64), .one (.int .i64), .one .ref, .one (.int .i64)], [], []⟩], L40_2 N⟩) (by kernel_rfl) (fun _ => rfl) (fun _ _ => by kernel_rfl)
theorem l40_3 (N : Nat) : ∀ A, (e40 N).lp (lid (loopAt Try.f40 3)) = some A → LoopOk (e40 N) N (loopAt Try.f40 3) A :=
  loopOk_of (A := ⟨⟨.normal, [0, 2, 6, 52, 53], [.one .ref, .one .ref, .one (.int .i64), .one (.int .i64), .one (.int .i64)], [], []⟩, [⟨(.exit 6), [0, 2, 6], [.one .ref, .one .ref, .one (.int .i64)], [], []⟩, ⟨.ret, [6, 7, 8, 9], [.one (.int .i64), .one (.int .i64), .one .ref, .one (.int .i64)], [], []⟩], L40_3 N⟩) (by kernel_rfl) (fun _ => rfl) (fun _ _ => by kernel_rfl)
theorem fine40 (N : Nat) : Fine (e40 N) N 40 Try.f40 ks40 rs40 (F40 N) :=
  ⟨Try.func40, by kernel_rfl, by kernel_rfl, by kernel_rfl, loops_of ⟨l40_0 N, ⟨l40_1 N, ⟨l40_2 N, ⟨l40_3 N, trivial⟩⟩⟩⟩, by kernel_rfl, by kernel_rfl, fun _ => by kernel_rfl⟩
theorem good40 (N : Nat) : Go.L.Good (e40 N) := good_of ⟨gd39 N, ⟨gd43 N, ⟨gd61 N N, trivial⟩⟩⟩
theorem gd40 (N : Nat) : CalOk Try.prog 40 (.full (mkFun ks40 rs40 (F40 N))) := mkFun_good (fine40 N) (good40 N)

/-! ### 41: box.Box).take -/
noncomputable def F41 (N : Nat) : V × Int × Int × H → Option (Int × Int × (Nat × Nat) × ByteArray × Int × Int × V × H)
  | (a0, a1, a2, h) =>
    (nck a0).bind fun _ =>
    (aidx (padd a0 1) a1 2 1).bind fun q1 =>
    ((rd h q1 0)).bind fun x2 =>
    (sidx x2 a2 7).bind fun q3 =>
    (L.asInt .i64 (rd h q3 0)).bind fun x4 =>
    (L.asInt .i64 (rd h q3 1)).bind fun x5 =>
    (L.asCplx .f64 (rd h q3 2)).bind fun x6 =>
    (L.asStr (rd h q3 3)).bind fun x7 =>
    (L.asInt .i64 (rd h q3 4)).bind fun x8 =>
    (L.asInt .i64 (rd h q3 5)).bind fun x9 =>
    ((rd h q3 6)).bind fun x10 =>
    (nck a0).bind fun _ =>
    (aidx (padd a0 1) a1 2 1).bind fun q11 =>
    ((rd h q11 0)).bind fun x12 =>
    (slen x12).bind fun n13 =>
    (ssl 7 x12 a2 n13).bind fun v14 =>
    (nck a0).bind fun _ =>
    (aidx (padd a0 1) a1 2 1).bind fun q15 =>
    ((rd h q15 0)).bind fun x16 =>
    (slen x16).bind fun n17 =>
    (ssl 7 x16 (IntKind.i64.wrap (a2 + 1)) n17).bind fun v18 =>
    (scells h v18 7).bind fun cs20 =>
    (if snlen v18 ≤ snlen v14 then (
    (hwrAll h v14 7 cs20).bind fun h19 =>
    (nck a0).bind fun _ =>
    (aidx (padd a0 1) a1 2 1).bind fun q21 =>
    ((rd h19 q21 0)).bind fun x22 =>
    (nck a0).bind fun _ =>
    (aidx (padd a0 1) a1 2 1).bind fun q23 =>
    ((rd h19 q23 0)).bind fun x24 =>
    (slen x24).bind fun n25 =>
    (slen x22).bind fun n26 =>
    (ssl 7 x22 0 (IntKind.i64.wrap (n25 - 1))).bind fun v27 =>
    (nck a0).bind fun _ =>
    (aidx (padd a0 1) a1 2 1).bind fun q28 =>
    (ck1 v27).bind fun _ =>
    (wr h19 q28 [v27]).bind fun h29 =>
    some (x4, x5, (x6.1, x6.2), x7, x8, x9, x10, h29)) else none)
abbrev ks41 : List SK := [.one .ref, .one (.int .i64), .one (.int .i64)]
abbrev rs41 : List SK := [.agg [(.int .i64), (.int .i64), (.cplx .f64), .str, (.int .i64), (.int .i64), .ref]]
noncomputable def e41 (N : Nat) : Env := ⟨Try.prog, 56, inTab [6, 7], inTab [], natTab [(6, 6), (7, 7)], inTab [], calTab [], altTab [], loopTab [], natTab []⟩
theorem fine41 (N : Nat) : Fine (e41 N) N 41 Try.f41 ks41 rs41 (F41 N) :=
  ⟨Try.func41, by kernel_rfl, by kernel_rfl, by kernel_rfl, loops_of trivial, by kernel_rfl, by kernel_rfl, fun _ => by kernel_rfl⟩
theorem good41 (N : Nat) : Go.L.Good (e41 N) := good_of trivial
theorem gd41 (N : Nat) : CalOk Try.prog 41 (.full (mkFun ks41 rs41 (F41 N))) := mkFun_good (fine41 N) (good41 N)

/-! ### 10: box.Box).Recv -/
noncomputable def L10_0 (N : Nat) : Nat → V × V × V × Int × Int × Int × Int × (Nat × Nat) × ByteArray × Int × Int × V × H → Option ((V × V × Int × Int × (Nat × Nat) × ByteArray × Int × Int × V × H) ⊕ (Int × V × Int × Int × Int × (Nat × Nat) × ByteArray × Int × Int × V × H))
  | 0, _ => none
  | n + 1, (x30, x31, x32, x33, x34, x35, x36, x37, x38, x39, x40, x41, h42) =>
    (if (decide (x34 < x33)) = true then (
    (sidx x32 x34 11).bind fun q43 =>
    (L.asInt .i64 (rd h42 q43 0)).bind fun x44 =>
    (L.asInt .i64 (rd h42 q43 1)).bind fun x45 =>
    (L.asInt .i64 (rd h42 q43 2)).bind fun x46 =>
    (L.asInt .i64 (rd h42 q43 3)).bind fun x47 =>
    (L.asCplx .f64 (rd h42 q43 4)).bind fun x48 =>
    (L.asStr (rd h42 q43 5)).bind fun x49 =>
    (L.asInt .i64 (rd h42 q43 6)).bind fun x50 =>
    (L.asInt .i64 (rd h42 q43 7)).bind fun x51 =>
    ((rd h42 q43 8)).bind fun x52 =>
    ((rd h42 q43 9)).bind fun x53 =>
    ((rd h42 q43 10)).bind fun x54 =>
    (F39 N (x44, x45, x46, x47, (x48.1, x48.2), x49, x50, x51, x52, x53, x54, 32, h42)).bind fun (x55, h56) =>
    (if (x55 != 0) = true then (
    some (.inr (0, .nils, x55, 0, 0, (0, 0), (ByteArray.mk #[]), 0, 0, .nils, h56)))
    else (
    L10_0 N n (x30, x31, x32, x33, (IntKind.i64.wrap (x34 + 1)), x35, x36, (x37.1, x37.2), x38, x39, x40, x41, h56))))
    else (
    some (.inl (x30, x31, x35, x36, (x37.1, x37.2), x38, x39, x40, x41, h42))))
noncomputable def L10_1 (N : Nat) : Nat → V × V × Int × Int × Int × (Nat × Nat) × ByteArray × Int × Int × V × H → Option ((V × Int × Int × (Nat × Nat) × ByteArray × Int × Int × V × H) ⊕ (Int × V × Int × Int × Int × (Nat × Nat) × ByteArray × Int × Int × V × H))
  | 0, _ => none
  | n + 1, (x97, x98, x99, x100, x101, x102, x103, x104, x105, x106, h107) =>
    (if (decide (x99 < 2)) = true then (
    (nck x97).bind fun _ =>
    (aidx (padd x97 1) x99 2 1).bind fun q108 =>
    ((rd h107 q108 0)).bind fun x109 =>
    (nck x97).bind fun _ =>
    (aidx (padd x97 3) x99 2 1).bind fun q110 =>
    (L.asInt .i64 (rd h107 q110 0)).bind fun x111 =>
    (F40 N (x109, x111, x98, h107)).bind fun (x112, x113, x114, x115, h116) =>
    (if (x115 == 0) = true then (
    (F9 N (x97, h116)).bind fun h117 =>
    (F41 N (x97, x99, x112, h117)).bind fun (x118, x119, x120, x121, x122, x123, x124, h125) =>
    some (.inr (x113, x114, 0, x118, x119, (x120.1, x120.2), x121, x122, x123, x124, h125)))
    else (
    L10_1 N n (x97, x98, (IntKind.i64.wrap (x99 + 1)), x100, x101, (x102.1, x102.2), x103, x104, x105, x106, h116))))
    else (
    some (.inl (x97, x100, x101, (x102.1, x102.2), x103, x104, x105, x106, h107))))
noncomputable def L10_2 (N : Nat) : Nat → V × Int × Int × Int × (Nat × Nat) × ByteArray × Int × Int × V × H → Option (Int × Int × (Nat × Nat) × ByteArray × Int × Int × V × H)
  | 0, _ => none
  | n + 1, (x151, x152, x153, x154, x155, x156, x157, x158, x159, h160) =>
    (if (decide (x152 < 2)) = true then (
    (nck x151).bind fun _ =>
    (aidx (padd x151 1) x152 2 1).bind fun q161 =>
    ((rd h160 q161 0)).bind fun x162 =>
    (slen x162).bind fun n163 =>
    (nck x151).bind fun _ =>
    (aidx (padd x151 3) x152 2 1).bind fun q164 =>
    (wr h160 q164 [(.int .i64 n163)]).bind fun h165 =>
    L10_2 N n (x151, (IntKind.i64.wrap (x152 + 1)), x153, x154, (x155.1, x155.2), x156, x157, x158, x159, h165))
    else (
    some (x153, x154, (x155.1, x155.2), x156, x157, x158, x159, h160)))
noncomputable def F10 (N : Nat) : V × V × H → Option (Int × Int × (Nat × Nat) × ByteArray × Int × Int × V × Int × V × Int × H)
  | (a0, a1, h) =>
    (F38 N (a0, h)).bind fun (x1, _) =>
    (if (!x1) = true then (
    some (0, 0, (0, 0), (ByteArray.mk #[]), 0, 0, .nils, 0, .nils, 1, h))
    else (
    (slen a1).bind fun n2 =>
    (L10_0 N N (a0, a1, a1, n2, 0, 0, 0, (0, 0), (ByteArray.mk #[]), 0, 0, .nils, h)).bind fun o57 => match o57 with
    | .inl (x58, x59, x60, x61, x62, x63, x64, x65, x66, h67) => (
    (L10_1 N N (x58, x59, 0, x60, x61, (x62.1, x62.2), x63, x64, x65, x66, h67)).bind fun o126 => match o126 with
    | .inl (x127, x128, x129, x130, x131, x132, x133, x134, h135) => (
    (L10_2 N N (x127, 0, x128, x129, (x130.1, x130.2), x131, x132, x133, x134, h135)).bind fun (x166, x167, x168, x169, x170, x171, x172, h173) =>
    some (0, 0, (0, 0), (ByteArray.mk #[]), 0, 0, .nils, 0, .nils, 3, h173))
    | .inr (x174, x175, x176, x177, x178, x179, x180, x181, x182, x183, h184) => (
    some (x177, x178, (x179.1, x179.2), x180, x181, x182, x183, x174, x175, x176, h184)))
    | .inr (x185, x186, x187, x188, x189, x190, x191, x192, x193, x194, h195) => (
    some (x188, x189, (x190.1, x190.2), x191, x192, x193, x194, x185, x186, x187, h195))))
abbrev ks10 : List SK := [.one .ref, .one .ref]
abbrev rs10 : List SK := [.agg [(.int .i64), (.int .i64), (.cplx .f64), .str, (.int .i64), (.int .i64), .ref], .one (.int .i64), .one .ref, .one (.int .i64)]
noncomputable def e10 (N : Nat) : Env := ⟨Try.prog, 84, inTab [4, 9], inTab [], natTab [(4, 4), (9, 9)], inTab [], calTab [(38, .ro (mkFun ks38 rs38 (F38 N))), (39, .full (mkFun ks39 rs39 (F39 N))), (40, .full (mkFun ks40 rs40 (F40 N))), (9, .full (mkFun ks9 rs9 (F9 N))), (41, .full (mkFun ks41 rs41 (F41 N)))], altTab [], loopTab [(4, ⟨⟨.normal, [0, 1, 4, 21, 22, 23], [.one .ref, .one .ref, .lp 4 0, .one .ref, .one (.int .i64), .one (.int .i64)], [4], [.cells [(.int .i64), (.int .i64), (.cplx .f64), .str, (.int .i64), (.int .i64), .ref]]⟩, [⟨(.exit 0), [0, 1, 4], [.one .ref, .one .ref, .lp 4 0], [4], [.cells [(.int .i64), (.int .i64), (.cplx .f64), .str, (.int .i64), (.int .i64), .ref]]⟩, ⟨.ret, [4, 5, 6, 7], [.lp 4 0, .one (.int .i64), .one .ref, .one (.int .i64)], [4], [.cells [(.int .i64), (.int .i64), (.cplx .f64), .str, (.int .i64), (.int .i64), .ref]]⟩], L10_0 N⟩), (11, ⟨⟨.normal, [0, 1, 4, 34], [.one .ref, .one .ref, .lp 4 0, .one (.int .i64)], [4], [.cells [(.int .i64), (.int .i64), (.cplx .f64), .str, (.int .i64), (.int .i64), .ref]]⟩, [⟨(.exit 2), [0, 4], [.one .ref, .lp 4 0], [4], [.cells [(.int .i64), (.int .i64), (.cplx .f64), .str, (.int .i64), (.int .i64), .ref]]⟩, ⟨.ret, [4, 5, 6, 7], [.lp 4 0, .one (.int .i64), .one .ref, .one (.int .i64)], [4], [.cells [(.int .i64), (.int .i64), (.cplx .f64), .str, (.int .i64), (.int .i64), .ref]]⟩], L10_1 N⟩), (19, ⟨⟨.normal, [0, 4, 67], [.one .ref, .lp 4 0, .one (.int .i64)], [4], [.cells [(.int .i64), (.int .i64), (.cplx .f64), .str, (.int .i64), (.int .i64), .ref]]⟩, [⟨(.exit 4), [4], [.lp 4 0], [4], [.cells [(.int .i64), (.int .i64), (.cplx .f64), .str, (.int .i64), (.int .i64), .ref]]⟩], L10_2 N⟩)], natTab []⟩
theorem l10_0 (N : Nat) : ∀ A, (e10 N).lp (lid (loopAt Try.f10 0)) = some A → LoopOk (e10 N) N (loopAt Try.f10 0) A :=
  loopOk_of (A := ⟨⟨.normal, [0, 1, 4, 21, 22, 23], [.one .ref, .one .ref, .lp 4 0, .one .ref, .one (.int .i64), .one (.int .i64)], [4], [.cells [(.int .i64), (.int .i64), (.cplx .f64), .str, (.int .i64), (.int .i64), .ref]]⟩, [⟨(.exit 0), [0, 1, 4], [.one .ref, .one .ref, .lp 4 0], [4], [.cells [(.int .i64), (.int .i64), (.cplx .f64), .str, (.int .i64), (.int .i64), .ref]]⟩, ⟨.ret, [4, 5, 6, 7], [.lp 4 0, .one (.int .i64), .one .ref, .one (.int .i64)], [4], [.cells [(.int .i64), (.int .i64), (.cplx .f64), .str, (.int .i64), (.int .i64), .ref]]⟩], L10_0 N⟩) (by kernel_rfl) (fun _ => rfl) (fun _ _ => by kernel_rfl)
theorem l10_1 (N : Nat) : ∀ A, (e10 N).lp (lid (loopAt Try.f10 1)) = some A → LoopOk (e10 N) N (loopAt Try.f10 1) A :=
  loopOk_of (A := ⟨⟨.normal, [0, 1, 4, 34], [.one .ref, .one .ref, .lp 4 0, .one (.int .i64)], [4], [.cells [(.int .i64), (.int .i64), (.cplx .f64), .str, (.int .i64), (.int .i64), .ref]]⟩, [⟨(.exit 2), [0, 4], [.one .ref, .lp 4 0], [4], [.cells [(.int .i64), (.int .i64), (.cplx .f64), .str, (.int .i64), (.int .i64), .ref]]⟩, ⟨.ret, [4, 5, 6, 7], [.lp 4 0, .one (.int .i64), .one .ref, .one (.int .i64)], [4], [.cells [(.int .i64), (.int .i64), (.cplx .f64), .str, (.int .i64), (.int .i64), .ref]]⟩], L10_1 N⟩) (by kernel_rfl) (fun _ => rfl) (fun _ _ => by kernel_rfl)
theorem l10_2 (N : Nat) : ∀ A, (e10 N).lp (lid (loopAt Try.f10 2)) = some A → LoopOk (e10 N) N (loopAt Try.f10 2) A :=
  loopOk_of (A := ⟨⟨.normal, [0, 4, 67], [.one .ref, .lp 4 0, .one (.int .i64)], [4], [.cells [(.int .i64), (.int .i64), (.cplx .f64), .str, (.int .i64), (.int .i64), .ref]]⟩, [⟨(.exit 4), [4], [.lp 4 0], [4], [.cells [(.int .i64), (.int .i64), (.cplx .f64), .str, (.int .i64), (.int .i64), .ref]]⟩], L10_2 N⟩) (by kernel_rfl) (fun _ => rfl) (fun _ _ => by kernel_rfl)
theorem fine10 (N : Nat) : Fine (e10 N) N 10 Try.f10 ks10 rs10 (F10 N) :=
  ⟨Try.func10, by kernel_rfl, by kernel_rfl, by kernel_rfl, loops_of ⟨l10_0 N, ⟨l10_1 N, ⟨l10_2 N, trivial⟩⟩⟩, by kernel_rfl, by kernel_rfl, fun _ => by kernel_rfl⟩
theorem good10 (N : Nat) : Go.L.Good (e10 N) := good_of ⟨gd38 N, ⟨gd39 N, ⟨gd40 N, ⟨gd9 N, ⟨gd41 N, trivial⟩⟩⟩⟩⟩
theorem gd10 (N : Nat) : CalOk Try.prog 10 (.full (mkFun ks10 rs10 (F10 N))) := mkFun_good (fine10 N) (good10 N)

/-! ### 12: carouselref03.Nil -/
noncomputable def F12 (N : Nat) : H → Option (Int × Int × (Nat × Nat) × ByteArray × Int × Int × V × H)
  | h =>
    some (1, 0, (0, 0), (ByteArray.mk #[]), 0, 0, .nils, h)
abbrev ks12 : List SK := []
abbrev rs12 : List SK := [.agg [(.int .i64), (.int .i64), (.cplx .f64), .str, (.int .i64), (.int .i64), .ref]]
noncomputable def e12 (N : Nat) : Env := ⟨Try.prog, 2, inTab [0], inTab [], natTab [(0, 0)], inTab [], calTab [], altTab [], loopTab [], natTab []⟩
theorem fine12 (N : Nat) : Fine (e12 N) N 12 Try.f12 ks12 rs12 (F12 N) :=
  ⟨Try.func12, by kernel_rfl, by kernel_rfl, by kernel_rfl, loops_of trivial, by kernel_rfl, by kernel_rfl, fun _ => by kernel_rfl⟩
theorem good12 (N : Nat) : Go.L.Good (e12 N) := good_of trivial
theorem gd12 (N : Nat) : CalOk Try.prog 12 (.ro (mkFun ks12 rs12 (F12 N))) := mkFun_ro (fine12 N) (good12 N) (by kernel_rfl)

/-! ### 42: box.lane -/
noncomputable def F42 (N : Nat) : Int × H → Option (Bool × H)
  | (a0, h) =>
    (if (decide (a0 ≥ 0)) = true then (
    some ((decide (a0 < 2)), h))
    else (
    some (false, h))).bind fun (b1, h2) =>
    some (b1, h2)
abbrev ks42 : List SK := [.one (.int .i64)]
abbrev rs42 : List SK := [.one .bool]
noncomputable def e42 (N : Nat) : Env := ⟨Try.prog, 9, inTab [], inTab [], natTab [], inTab [], calTab [], altTab [], loopTab [], natTab []⟩
theorem fine42 (N : Nat) : Fine (e42 N) N 42 Try.f42 ks42 rs42 (F42 N) :=
  ⟨Try.func42, by kernel_rfl, by kernel_rfl, by kernel_rfl, loops_of trivial, by kernel_rfl, by kernel_rfl, fun _ => by kernel_rfl⟩
theorem good42 (N : Nat) : Go.L.Good (e42 N) := good_of trivial
theorem gd42 : CalOk Try.prog 42 (.pure (mkP ks42 rs42 (F42 100))) := mkP_good (fine42 100) (good42 100) (by kernel_rfl) (by kernel_rfl)

/-! ### 11: box.Box).Put -/
noncomputable def F11 (N : Nat) : V × Int × Int × Int × (Nat × Nat) × ByteArray × Int × Int × V × H → Option (Int × H)
  | (a0, a1, a2_0, a2_1, a2_2, a2_3, a2_4, a2_5, a2_6, h) =>
    (F38 N (a0, h)).bind fun (x1, _) =>
    (if (!x1) = true then (
    some (true, h))
    else (
    (F42 100 (a1, [])).bind fun (x4, _) =>
    some ((!x4), h))).bind fun (b2, h3) =>
    (if b2 = true then (
    some (1, h3))
    else (
    (F43 N (a2_0, a2_1, (a2_2.1, a2_2.2), a2_3, a2_4, a2_5, a2_6, h3)).bind fun (x5, h6) =>
    (if (x5 != 0) = true then (
    some (x5, h6))
    else (
    (nck a0).bind fun _ =>
    (aidx (padd a0 1) a1 2 1).bind fun q7 =>
    ((rd h6 q7 0)).bind fun x8 =>
    (slen x8).bind fun n9 =>
    (if (decide (n9 ≥ 256)) = true then (
    some (120, h6))
    else (
    (nck a0).bind fun _ =>
    (aidx (padd a0 1) a1 2 1).bind fun q10 =>
    ((rd h6 q10 0)).bind fun x11 =>
    (slen x11).bind fun n12 =>
    (nck a0).bind fun _ =>
    (happ h6 x11 7 1 [(.int .i64 0), (.int .i64 0), (.cplx .f64 0 0), (.str (ByteArray.mk #[])), (.int .i64 0), (.int .i64 0), .nils]).bind fun (v13, h14) =>
    (sidx v13 n12 7).bind fun q15 =>
    (aidx (padd a0 1) a1 2 1).bind fun q16 =>
    (wr h14 q15 [(.int .i64 a2_0), (.int .i64 a2_1), (.cplx .f64 a2_2.1 a2_2.2), (.str a2_3), (.int .i64 a2_4), (.int .i64 a2_5), a2_6]).bind fun h17 =>
    (ck1 v13).bind fun _ =>
    (wr h17 q16 [v13]).bind fun h18 =>
    (sepS (.p q15) (.p q16)).bind fun _ =>
    some (0, h18)))))))
abbrev ks11 : List SK := [.one .ref, .one (.int .i64), .agg [(.int .i64), (.int .i64), (.cplx .f64), .str, (.int .i64), (.int .i64), .ref]]
abbrev rs11 : List SK := [.one (.int .i64)]
noncomputable def e11 (N : Nat) : Env := ⟨Try.prog, 43, inTab [5, 37], inTab [], natTab [(5, 5)], inTab [], calTab [(38, .ro (mkFun ks38 rs38 (F38 N))), (42, .pure (mkP ks42 rs42 (F42 100))), (43, .full (mkFun ks43 rs43 (F43 N)))], altTab [], loopTab [], natTab []⟩
theorem fine11 (N : Nat) : Fine (e11 N) N 11 Try.f11 ks11 rs11 (F11 N) :=
  ⟨Try.func11, by kernel_rfl, by kernel_rfl, by kernel_rfl, loops_of trivial, by kernel_rfl, by kernel_rfl, fun _ => by kernel_rfl⟩
theorem good11 (N : Nat) : Go.L.Good (e11 N) := good_of ⟨gd38 N, ⟨gd42, ⟨gd43 N, trivial⟩⟩⟩
theorem gd11 (N : Nat) : CalOk Try.prog 11 (.full (mkFun ks11 rs11 (F11 N))) := mkFun_good (fine11 N) (good11 N)

/-! ### 13: box.Box).Marks -/
noncomputable def F13 (N : Nat) : V × H → Option (List V × H)
  | (a0, h) =>
    (F38 N (a0, h)).bind fun (x1, _) =>
    (if (!x1) = true then (
    some ([(.int .i64 0), (.int .i64 0)], h))
    else (
    (nck a0).bind fun _ =>
    (rdN h (padd a0 3) 2).bind fun cs2 =>
    (if (cs2).length = 2 then (
    (if 0 + (cs2).length ≤ 2 then (
    ((if 0 + 2 ≤ ((splice [(.int .i64 0), (.int .i64 0)] 0 cs2)).length then some ((((splice [(.int .i64 0), (.int .i64 0)] 0 cs2)).drop 0).take 2) else none) : Option (List V)).bind fun cs3 =>
    some (cs3, h)) else none)) else none)))
abbrev ks13 : List SK := [.one .ref]
abbrev rs13 : List SK := [.blk]
noncomputable def e13 (N : Nat) : Env := ⟨Try.prog, 11, inTab [2], inTab [], natTab [(2, 2)], inTab [], calTab [(38, .ro (mkFun ks38 rs38 (F38 N)))], altTab [], loopTab [], natTab []⟩
theorem fine13 (N : Nat) : Fine (e13 N) N 13 Try.f13 ks13 rs13 (F13 N) :=
  ⟨Try.func13, by kernel_rfl, by kernel_rfl, by kernel_rfl, loops_of trivial, by kernel_rfl, by kernel_rfl, fun _ => by kernel_rfl⟩
theorem good13 (N : Nat) : Go.L.Good (e13 N) := good_of ⟨gd38 N, trivial⟩
theorem gd13 (N : Nat) : CalOk Try.prog 13 (.ro (mkFun ks13 rs13 (F13 N))) := mkFun_ro (fine13 N) (good13 N) (by kernel_rfl)

/-! ### 15: box.Box).Lane -/
noncomputable def F15 (N : Nat) : V × Int × H → Option (V × H)
  | (a0, a1, h) =>
    (F38 N (a0, h)).bind fun (x1, _) =>
    (if (!x1) = true then (
    some (true, h))
    else (
    (F42 100 (a1, [])).bind fun (x4, _) =>
    some ((!x4), h))).bind fun (b2, h3) =>
    (if b2 = true then (
    some (.nils, h3))
    else (
    (nck a0).bind fun _ =>
    (aidx (padd a0 1) a1 2 1).bind fun q5 =>
    ((rd h3 q5 0)).bind fun x6 =>
    (scells h3 x6 7).bind fun cs9 =>
    (happ h3 .nils 7 (snlen x6) cs9).bind fun (v7, h8) =>
    some (v7, h8)))
abbrev ks15 : List SK := [.one .ref, .one (.int .i64)]
abbrev rs15 : List SK := [.one .ref]
noncomputable def e15 (N : Nat) : Env := ⟨Try.prog, 20, inTab [], inTab [], natTab [], inTab [], calTab [(38, .ro (mkFun ks38 rs38 (F38 N))), (42, .pure (mkP ks42 rs42 (F42 100)))], altTab [], loopTab [], natTab []⟩
theorem fine15 (N : Nat) : Fine (e15 N) N 15 Try.f15 ks15 rs15 (F15 N) :=
  ⟨Try.func15, by kernel_rfl, by kernel_rfl, by kernel_rfl, loops_of trivial, by kernel_rfl, by kernel_rfl, fun _ => by kernel_rfl⟩
theorem good15 (N : Nat) : Go.L.Good (e15 N) := good_of ⟨gd38 N, ⟨gd42, trivial⟩⟩
theorem gd15 (N : Nat) : CalOk Try.prog 15 (.full (mkFun ks15 rs15 (F15 N))) := mkFun_good (fine15 N) (good15 N)

/-! ### 14: box.Box).Len -/
noncomputable def F14 (N : Nat) : V × Int × H → Option (Int × H)
  | (a0, a1, h) =>
    (F15 N (a0, a1, h)).bind fun (x1, h2) =>
    (slen x1).bind fun n3 =>
    some (n3, h2)
abbrev ks14 : List SK := [.one .ref, .one (.int .i64)]
abbrev rs14 : List SK := [.one (.int .i64)]
noncomputable def e14 (N : Nat) : Env := ⟨Try.prog, 9, inTab [], inTab [], natTab [], inTab [], calTab [(15, .full (mkFun ks15 rs15 (F15 N)))], altTab [], loopTab [], natTab []⟩
theorem fine14 (N : Nat) : Fine (e14 N) N 14 Try.f14 ks14 rs14 (F14 N) :=
  ⟨Try.func14, by kernel_rfl, by kernel_rfl, by kernel_rfl, loops_of trivial, by kernel_rfl, by kernel_rfl, fun _ => by kernel_rfl⟩
theorem good14 (N : Nat) : Go.L.Good (e14 N) := good_of ⟨gd15 N, trivial⟩
theorem gd14 (N : Nat) : CalOk Try.prog 14 (.full (mkFun ks14 rs14 (F14 N))) := mkFun_good (fine14 N) (good14 N)

/-! ### 44: api.Term] -/
noncomputable def F44 (N : Nat) : V × H → Option (V × H)
  | (a0, h) =>
    (isNilS a0).bind fun b1 =>
    (if b1 = true then (
    some (.nils, h))
    else (
    (some (h ++ [O.cells 0 []]) : Option H).bind fun h2 =>
    (scells h2 a0 7).bind fun cs5 =>
    (happ h2 (.sl (h).length 0 0 0 7 (some 0)) 7 (snlen a0) cs5).bind fun (v3, h4) =>
    some (v3, h4)))
abbrev ks44 : List SK := [.one .ref]
abbrev rs44 : List SK := [.one .ref]
noncomputable def e44 (N : Nat) : Env := ⟨Try.prog, 8, inTab [], inTab [], natTab [], inTab [], calTab [], altTab [], loopTab [], natTab []⟩
theorem fine44 (N : Nat) : Fine (e44 N) N 44 Try.f44 ks44 rs44 (F44 N) :=
  ⟨Try.func44, by kernel_rfl, by kernel_rfl, by kernel_rfl, loops_of trivial, by kernel_rfl, by kernel_rfl, fun _ => by kernel_rfl⟩
theorem good44 (N : Nat) : Go.L.Good (e44 N) := good_of trivial
theorem gd44 (N : Nat) : CalOk Try.prog 44 (.full (mkFun ks44 rs44 (F44 N))) := mkFun_good (fine44 N) (good44 N)

/-! ### 16: box.Box).Copy -/
noncomputable def L16_0 (N : Nat) : Nat → V × V × Int × H → Option (V × H)
  | 0, _ => none
  | n + 1, (x15, x16, x17, h18) =>
    (if (decide (x17 < 2)) = true then (
    (nck x15).bind fun _ =>
    (aidx (padd x15 1) x17 2 1).bind fun q19 =>
    ((rd h18 q19 0)).bind fun x20 =>
    (F44 N (x20, h18)).bind fun (x21, h22) =>
    (nck x16).bind fun _ =>
    (aidx (padd x16 1) x17 2 1).bind fun q23 =>
    (ck1 x21).bind fun _ =>
    (wr h22 q23 [x21]).bind fun h24 =>
    L16_0 N n (x15, x16, (IntKind.i64.wrap (x17 + 1)), h24))
    else (
    some (x16, h18)))
noncomputable def F16 (N : Nat) : V × H → Option (V × H)
  | (a0, h) =>
    (F38 N (a0, h)).bind fun (x1, _) =>
    (if (!x1) = true then (
    some (.nilp, h))
    else (
    (nck a0).bind fun _ =>
    (rdN h a0 5).bind fun cs2 =>
    (some (h ++ [O.cells 0 [(.bool false), .nils, .nils, (.int .i64 0), (.int .i64 0)]]) : Option H).bind fun h3 =>
    (if (cs2).length = 5 then (
    (wr h3 (.ptr (h).length 0 0) cs2).bind fun h4 =>
    (L16_0 N N (a0, (.ptr (h).length 0 0), 0, h4)).bind fun (x25, h26) =>
    some (x25, h26)) else none)))
abbrev ks16 : List SK := [.one .ref]
abbrev rs16 : List SK := [.one .ref]
noncomputable def e16 (N : Nat) : Env := ⟨Try.prog, 25, inTab [], inTab [], natTab [], inTab [], calTab [(38, .ro (mkFun ks38 rs38 (F38 N))), (44, .full (mkFun ks44 rs44 (F44 N)))], altTab [], loopTab [(5, ⟨⟨.normal, [0, 3, 11], [.one .ref, .one .ref, .one (.int .i64)], [], []⟩, [⟨(.exit 0), [3], [.one .ref], [], []⟩], L16_0 N⟩)], natTab []⟩
theorem l16_0 (N : Nat) : ∀ A, (e16 N).lp (lid (loopAt Try.f16 0)) = some A → LoopOk (e16 N) N (loopAt Try.f16 0) A :=
  loopOk_of (A := ⟨⟨.normal, [0, 3, 11], [.one .ref, .one .ref, .one (.int .i64)], [], []⟩, [⟨(.exit 0), [3], [.one .ref], [], []⟩], L16_0 N⟩) (by kernel_rfl) (fun _ => rfl) (fun _ _ => by kernel_rfl)
theorem fine16 (N : Nat) : Fine (e16 N) N 16 Try.f16 ks16 rs16 (F16 N) :=
  ⟨Try.func16, by kernel_rfl, by kernel_rfl, by kernel_rfl, loops_of ⟨l16_0 N, trivial⟩, by kernel_rfl, by kernel_rfl, fun _ => by kernel_rfl⟩
theorem good16 (N : Nat) : Go.L.Good (e16 N) := good_of ⟨gd38 N, ⟨gd44 N, trivial⟩⟩
theorem gd16 (N : Nat) : CalOk Try.prog 16 (.full (mkFun ks16 rs16 (F16 N))) := mkFun_good (fine16 N) (good16 N)

/-! ### 45: box.New -/
noncomputable def F45 (N : Nat) : H → Option (V × H)
  | h =>
    (some (h ++ [O.cells 0 [(.bool true), .nils, .nils, (.int .i64 0), (.int .i64 0)]]) : Option H).bind fun h1 =>
    some ((.ptr (h).length 0 0), h1)
abbrev ks45 : List SK := []
abbrev rs45 : List SK := [.one .ref]
noncomputable def e45 (N : Nat) : Env := ⟨Try.prog, 3, inTab [], inTab [], natTab [], inTab [], calTab [], altTab [], loopTab [], natTab []⟩
theorem fine45 (N : Nat) : Fine (e45 N) N 45 Try.f45 ks45 rs45 (F45 N) :=
  ⟨Try.func45, by kernel_rfl, by kernel_rfl, by kernel_rfl, loops_of trivial, by kernel_rfl, by kernel_rfl, fun _ => by kernel_rfl⟩
theorem good45 (N : Nat) : Go.L.Good (e45 N) := good_of trivial
theorem gd45 (N : Nat) : CalOk Try.prog 45 (.full (mkFun ks45 rs45 (F45 N))) := mkFun_good (fine45 N) (good45 N)

/-! ### 46: carouselref03.Name -/
noncomputable def F46 (N : Nat) : ByteArray × H → Option (Int × Int × (Nat × Nat) × ByteArray × Int × Int × V × H)
  | (a0, h) =>
    some (5, 0, (0, 0), a0, 0, 0, .nils, h)
abbrev ks46 : List SK := [.one .str]
abbrev rs46 : List SK := [.agg [(.int .i64), (.int .i64), (.cplx .f64), .str, (.int .i64), (.int .i64), .ref]]
noncomputable def e46 (N : Nat) : Env := ⟨Try.prog, 5, inTab [2], inTab [], natTab [(2, 2)], inTab [], calTab [], altTab [], loopTab [], natTab []⟩
theorem fine46 (N : Nat) : Fine (e46 N) N 46 Try.f46 ks46 rs46 (F46 N) :=
  ⟨Try.func46, by kernel_rfl, by kernel_rfl, by kernel_rfl, loops_of trivial, by kernel_rfl, by kernel_rfl, fun _ => by kernel_rfl⟩
theorem good46 (N : Nat) : Go.L.Good (e46 N) := good_of trivial
theorem gd46 (N : Nat) : CalOk Try.prog 46 (.ro (mkFun ks46 rs46 (F46 N))) := mkFun_ro (fine46 N) (good46 N) (by kernel_rfl)

/-! ### 5: carouselref03.Int -/
noncomputable def F5 (N : Nat) : Int × H → Option (Int × Int × (Nat × Nat) × ByteArray × Int × Int × V × H)
  | (a0, h) =>
    some (3, a0, (0, 0), (ByteArray.mk #[]), 0, 0, .nils, h)
abbrev ks5 : List SK := [.one (.int .i64)]
abbrev rs5 : List SK := [.agg [(.int .i64), (.int .i64), (.cplx .f64), .str, (.int .i64), (.int .i64), .ref]]
noncomputable def e5 (N : Nat) : Env := ⟨Try.prog, 5, inTab [2], inTab [], natTab [(2, 2)], inTab [], calTab [], altTab [], loopTab [], natTab []⟩
theorem fine5 (N : Nat) : Fine (e5 N) N 5 Try.f5 ks5 rs5 (F5 N) :=
  ⟨Try.func5, by kernel_rfl, by kernel_rfl, by kernel_rfl, loops_of trivial, by kernel_rfl, by kernel_rfl, fun _ => by kernel_rfl⟩
theorem good5 (N : Nat) : Go.L.Good (e5 N) := good_of trivial
theorem gd5 (N : Nat) : CalOk Try.prog 5 (.ro (mkFun ks5 rs5 (F5 N))) := mkFun_ro (fine5 N) (good5 N) (by kernel_rfl)

/-! ### 63: carouselref03.bits -/
noncomputable def F63 (N : Nat) : Nat × Nat × H → Option (Bool × H)
  | (a0, a1, h) =>
    (if ((FloatKind.f64.format.order a0 a0) != some .eq) = true then (
    some (true, h))
    else (
    some (((FloatKind.f64.format.order a1 a1) != some .eq), h))).bind fun (b1, h2) =>
    (if b1 = true then (
    (if ((FloatKind.f64.format.order a0 a0) != some .eq) = true then (
    some (((FloatKind.f64.format.order a1 a1) != some .eq), h2))
    else (
    some (false, h2))).bind fun (b3, h4) =>
    some (b3, h4))
    else (
    (if ((FloatKind.f64.format.order a0 a1) == some .eq) = true then (
    (if ((FloatKind.f64.format.order a0 0) != some .eq) = true then (
    some (true, h2))
    else (
    (FloatKind.f64.format.div 4607182418800017408 a0).bind fun x9 =>
    (FloatKind.f64.format.div 4607182418800017408 a1).bind fun x10 =>
    some (((FloatKind.f64.format.order x9 x10) == some .eq), h2))).bind fun (b7, h8) =>
    some (b7, h8))
    else (
    some (false, h2))).bind fun (b5, h6) =>
    some (b5, h6)))
abbrev ks63 : List SK := [.one (.float .f64), .one (.float .f64)]
abbrev rs63 : List SK := [.one .bool]
noncomputable def e63 (N : Nat) : Env := ⟨Try.prog, 35, inTab [], inTab [], natTab [], inTab [], calTab [], altTab [], loopTab [], natTab []⟩
theorem fine63 (N : Nat) : Fine (e63 N) N 63 Try.f63 ks63 rs63 (F63 N) :=
  ⟨Try.func63, by kernel_rfl, by kernel_rfl, by kernel_rfl, loops_of trivial, by kernel_rfl, by kernel_rfl, fun _ => by kernel_rfl⟩
theorem good63 (N : Nat) : Go.L.Good (e63 N) := good_of trivial
theorem gd63 : CalOk Try.prog 63 (.pure (mkP ks63 rs63 (F63 100))) := mkP_good (fine63 100) (good63 100) (by kernel_rfl) (by kernel_rfl)

/-! ### 47: carouselref03.Same -/
noncomputable def L47_0 (N : Nat) (rec : Int × Int × (Nat × Nat) × ByteArray × Int × Int × V × Int × Int × (Nat × Nat) × ByteArray × Int × Int × V × H → Option (Bool × H)) : Nat → Int × Int × Int × (Nat × Nat) × ByteArray × Int × Int × V × Int × Int × (Nat × Nat) × ByteArray × Int × Int × V × H → Option ((H) ⊕ (Bool × H))
  | 0, _ => none
  | n + 1, (x59, x60, x61, x62, x63, x64, x65, x66, x67, x68, x69, x70, x71, x72, x73, h74) =>
    (slen x66).bind fun n75 =>
    (if (decide (x59 < n75)) = true then (
    (sidx x66 x59 7).bind fun q76 =>
    (L.asInt .i64 (rd h74 q76 0)).bind fun x77 =>
    (L.asInt .i64 (rd h74 q76 1)).bind fun x78 =>
    (L.asCplx .f64 (rd h74 q76 2)).bind fun x79 =>
    (L.asStr (rd h74 q76 3)).bind fun x80 =>
    (L.asInt .i64 (rd h74 q76 4)).bind fun x81 =>
    (L.asInt .i64 (rd h74 q76 5)).bind fun x82 =>
    ((rd h74 q76 6)).bind fun x83 =>
    (sidx x73 x59 7).bind fun q84 =>
    (L.asInt .i64 (rd h74 q84 0)).bind fun x85 =>
    (L.asInt .i64 (rd h74 q84 1)).bind fun x86 =>
    (L.asCplx .f64 (rd h74 q84 2)).bind fun x87 =>
    (L.asStr (rd h74 q84 3)).bind fun x88 =>
    (L.asInt .i64 (rd h74 q84 4)).bind fun x89 =>
    (L.asInt .i64 (rd h74 q84 5)).bind fun x90 =>
    ((rd h74 q84 6)).bind fun x91 =>
    (rec (x77, x78, (x79.1, x79.2), x80, x81, x82, x83, x85, x86, (x87.1, x87.2), x88, x89, x90, x91, h74)).bind fun (x92, _) =>
    (if (!x92) = true then (
    some (.inr (false, h74)))
    else (
    L47_0 N rec n ((IntKind.i64.wrap (x59 + 1)), x60, x61, (x62.1, x62.2), x63, x64, x65, x66, x67, x68, (x69.1, x69.2), x70, x71, x72, x73, h74))))
    else (
    some (.inl h74)))
noncomputable def F47 (N : Nat) : Nat → Int × Int × (Nat × Nat) × ByteArray × Int × Int × V × Int × Int × (Nat × Nat) × ByteArray × Int × Int × V × H → Option (Bool × H)
  | 0, _ => none
  | d + 1, (a0_0, a0_1, a0_2, a0_3, a0_4, a0_5, a0_6, a1_0, a1_1, a1_2, a1_3, a1_4, a1_5, a1_6, h) =>
    (if (a0_0 != a1_0) = true then (
    some (true, h))
    else (
    some ((a0_1 != a1_1), h))).bind fun (b1, h2) =>
    (if b1 = true then (
    some (true, h2))
    else (
    some ((!((a0_3).toList == (a1_3).toList)), h2))).bind fun (b3, h4) =>
    (if b3 = true then (
    some (true, h4))
    else (
    some ((!((a0_4 == a1_4) && ((a0_5 == a1_5) && true))), h4))).bind fun (b5, h6) =>
    (if b5 = true then (
    some (true, h6))
    else (
    (slen a0_6).bind fun n9 =>
    (slen a1_6).bind fun n10 =>
    some ((n9 != n10), h6))).bind fun (b7, h8) =>
    (if b7 = true then (
    some (false, h8))
    else (
    (if (a0_0 == 4) = true then (
    (F63 100 (a0_2.1, a1_2.1, [])).bind fun (x13, _) =>
    (if (!x13) = true then (
    some (true, h8))
    else (
    (F63 100 (a0_2.2, a1_2.2, [])).bind fun (x16, _) =>
    some ((!x16), h8))).bind fun (b14, h15) =>
    some (b14, h15))
    else (
    some (false, h8))).bind fun (b11, h12) =>
    (if b11 = true then (
    some (true, h12))
    else (
    (if (a0_0 != 4) = true then (
    some ((!(Op.floatEq .f64 a0_2.1 a1_2.1 && Op.floatEq .f64 a0_2.2 a1_2.2)), h12))
    else (
    some (false, h12))).bind fun (b19, h20) =>
    (if b19 = true then (
    (if (Op.floatEq .f64 a0_2.1 a0_2.1 && Op.floatEq .f64 a0_2.2 a0_2.2) = true then (
    some (true, h20))
    else (
    some ((Op.floatEq .f64 a1_2.1 a1_2.1 && Op.floatEq .f64 a1_2.2 a1_2.2), h20))).bind fun (b23, h24) =>
    some (b23, h24))
    else (
    some (false, h20))).bind fun (b21, h22) =>
    some (b21, h22))).bind fun (b17, h18) =>
    (if b17 = true then (
    some (false, h18))
    else (
    (L47_0 N (F47 N d) N (0, a0_0, a0_1, (a0_2.1, a0_2.2), a0_3, a0_4, a0_5, a0_6, a1_0, a1_1, (a1_2.1, a1_2.2), a1_3, a1_4, a1_5, a1_6, h18)).bind fun o93 => match o93 with
    | .inl h94 => (
    some (true, h94))
    | .inr (x95, h96) => (
    some (x95, h96))))))
abbrev ks47 : List SK := [.agg [(.int .i64), (.int .i64), (.cplx .f64), .str, (.int .i64), (.int .i64), .ref], .agg [(.int .i64), (.int .i64), (.cplx .f64), .str, (.int .i64), (.int .i64), .ref]]
abbrev rs47 : List SK := [.one .bool]
noncomputable def e47 (N d : Nat) : Env := ⟨Try.prog, 109, inTab [2, 3], inTab [], natTab [(2, 2), (3, 3), (6, 2), (8, 3), (12, 2), (14, 3), (19, 2), (21, 3), (26, 2), (28, 3), (33, 2), (36, 3), (41, 2), (45, 2), (48, 3), (54, 2), (57, 3), (65, 2), (69, 2), (71, 3), (76, 2), (78, 2), (82, 3), (84, 3), (91, 2), (97, 2), (102, 3)], inTab [], calTab [(63, .pure (mkP ks63 rs63 (F63 100))), (47, .ro (mkFun ks47 rs47 (F47 N d)))], altTab [], loopTab [(6, ⟨⟨.normal, [2, 3, 5], [.lp 2 0, .lp 3 0, .one (.int .i64)], [2, 3], [.cells [(.int .i64), (.int .i64), (.cplx .f64), .str, (.int .i64), (.int .i64), .ref], .cells [(.int .i64), (.int .i64), (.cplx .f64), .str, (.int .i64), (.int .i64), .ref]]⟩, [⟨(.exit 0), [], [], [], []⟩, ⟨.ret, [4], [.one .bool], [], []⟩], L47_0 N (F47 N d)⟩)], natTab []⟩
theorem l47_0 (N d : Nat) : ∀ A, (e47 N d).lp (lid (loopAt Try.f47 0)) = some A → LoopOk (e47 N d) N (loopAt Try.f47 0) A :=
  loopOk_of (A := ⟨⟨.normal, [2, 3, 5], [.lp 2 0, .lp 3 0, .one (.int .i64)], [2, 3], [.cells [(.int .i64), (.int .i64), (.cplx .f64), .str, (.int .i64), (.int .i64), .ref], .cells [(.int .i64), (.int .i64), (.cplx .f64), .str, (.int .i64), (.int .i64), .ref]]⟩, [⟨(.exit 0), [], [], [], []⟩, ⟨.ret, [4], [.one .bool], [], []⟩], L47_0 N (F47 N d)⟩) (by kernel_rfl) (fun _ => rfl) (fun _ _ => by kernel_rfl)
theorem fine47 (N d : Nat) : Fine (e47 N d) N 47 Try.f47 ks47 rs47 (F47 N (d + 1)) :=
  ⟨Try.func47, by kernel_rfl, by kernel_rfl, by kernel_rfl, loops_of ⟨l47_0 N d, trivial⟩, by kernel_rfl, by kernel_rfl, fun _ => by kernel_rfl⟩
theorem gd47 (N : Nat) : ∀ d, CalOk Try.prog 47 (.ro (mkFun ks47 rs47 (F47 N d)))
  | 0 => fun vs h s he => by obtain ⟨t, _, he⟩ := Option.bind_eq_some_iff.1 he; cases he
  | d + 1 => mkFun_ro (fine47 N d) (good_of ⟨gd63, ⟨gd47 N d, trivial⟩⟩) (by kernel_rfl)
theorem good47 (N d : Nat) : Go.L.Good (e47 N d) := good_of ⟨gd63, ⟨gd47 N d, trivial⟩⟩

/-! ### 17: carousellaw12.awake -/
noncomputable def F17 (N : Nat) : H → Option (Bool × H)
  | h =>
    (F45 N h).bind fun (x1, h2) =>
    (isNil x1).bind fun b3 =>
    (if b3 = true then (
    some (false, h2))
    else (
    (F46 N ((ByteArray.mk #[97]), h2)).bind fun (x4, x5, x6, x7, x8, x9, x10, _) =>
    (F11 N (x1, 1, x4, x5, (x6.1, x6.2), x7, x8, x9, x10, h2)).bind fun (x11, h12) =>
    (F5 N (1, h12)).bind fun (x13, x14, x15, x16, x17, x18, x19, _) =>
    (F11 N (x1, 0, x13, x14, (x15.1, x15.2), x16, x17, x18, x19, h12)).bind fun (x20, h21) =>
    (F46 N ((ByteArray.mk #[97]), h21)).bind fun (x22, x23, x24, x25, x26, x27, x28, _) =>
    (F5 N (2, h21)).bind fun (x29, x30, x31, x32, x33, x34, x35, _) =>
    (some (h21 ++ [O.cells 0 [(.int .i64 3), (.int .i64 0), (.int .i64 x22), (.int .i64 x23), (.cplx .f64 x24.1 x24.2), (.str x25), (.int .i64 x26), (.int .i64 x27), x28, .nils, .nils, (.int .i64 3), (.int .i64 0), (.int .i64 x29), (.int .i64 x30), (.cplx .f64 x31.1 x31.2), (.str x32), (.int .i64 x33), (.int .i64 x34), x35, .nils, .nils]]) : Option H).bind fun h36 =>
    (F10 N (x1, (.sl (h21).length 0 0 2 11 (some 2)), h36)).bind fun (x37, x38, x39, x40, x41, x42, x43, x44, x45, x46, h47) =>
    (if (x11 == 0) = true then (
    some ((x20 == 0), h47))
    else (
    some (false, h47))).bind fun (b48, h49) =>
    (if b48 = true then (
    some ((x46 == 0), h49))
    else (
    some (false, h49))).bind fun (b50, h51) =>
    (if b50 = true then (
    some ((x44 == 0), h51))
    else (
    some (false, h51))).bind fun (b52, h53) =>
    (if b52 = true then (
    (F46 N ((ByteArray.mk #[97]), h53)).bind fun (x56, x57, x58, x59, x60, x61, x62, _) =>
    (F47 N N (x37, x38, (x39.1, x39.2), x40, x41, x42, x43, x56, x57, (x58.1, x58.2), x59, x60, x61, x62, h53)).bind fun (x63, _) =>
    some (x63, h53))
    else (
    some (false, h53))).bind fun (b54, h55) =>
    (if b54 = true then (
    (F14 N (x1, 0, h55)).bind fun (x66, h67) =>
    some ((x66 == 1), h67))
    else (
    some (false, h55))).bind fun (b64, h65) =>
    (if b64 = true then (
    (F14 N (x1, 1, h65)).bind fun (x70, h71) =>
    some ((x70 == 0), h71))
    else (
    some (false, h65))).bind fun (b68, h69) =>
    some (b68, h69)))
abbrev ks17 : List SK := []
abbrev rs17 : List SK := [.one .bool]
noncomputable def e17 (N : Nat) : Env := ⟨Try.prog, 58, inTab [4], inTab [], natTab [(4, 4)], inTab [], calTab [(45, .full (mkFun ks45 rs45 (F45 N))), (46, .ro (mkFun ks46 rs46 (F46 N))), (11, .full (mkFun ks11 rs11 (F11 N))), (5, .ro (mkFun ks5 rs5 (F5 N))), (10, .full (mkFun ks10 rs10 (F10 N))), (47, .ro (mkFun ks47 rs47 (F47 N N))), (14, .full (mkFun ks14 rs14 (F14 N)))], altTab [], loopTab [], natTab []⟩
theorem lk17 (N : Nat) (g0 : H → Option (V × H)) (g1 : ByteArray × H → Option (Int × Int × (Nat × Nat) × ByteArray × Int × Int × V × H)) (g2 : V × Int × Int × Int × (Nat × Nat) × ByteArray × Int × Int × V × H → Option (Int × H)) (g3 : Int × H → Option (Int × Int × (Nat × Nat) × ByteArray × Int × Int × V × H)) (g4 : V × V × H → Option (Int × Int × (Nat × Nat) × ByteArray × Int × Int × V × Int × V × Int × H)) (g5 : Int × Int × (Nat × Nat) × ByteArray × Int × Int × V × Int × Int × (Nat × Nat) × ByteArray × Int × Int × V × H → Option (Bool × H)) (g6 : V × Int × H → Option (Int × H)) (h : H) :
    ((g0 h).bind fun (x1, h2) =>
(isNil x1).bind fun b3 =>
(if b3 = true then (
some (false, h2))
else (
(g1 ((ByteArray.mk #[97]), h2)).bind fun (x4, x5, x6, x7, x8, x9, x10, _) =>
(g2 (x1, 1, x4, x5, (x6.1, x6.2), x7, x8, x9, x10, h2)).bind fun (x11, h12) =>
(g3 (1, h12)).bind fun (x13, x14, x15, x16, x17, x18, x19, _) =>
(g2 (x1, 0, x13, x14, (x15.1, x15.2), x16, x17, x18, x19, h12)).bind fun (x20, h21) =>
(g1 ((ByteArray.mk #[97]), h21)).bind fun (x22, x23, x24, x25, x26, x27, x28, _) =>
(g3 (2, h21)).bind fun (x29, x30, x31, x32, x33, x34, x35, _) =>
(some (h21 ++ [O.cells 0 [(.int .i64 3), (.int .i64 0), (.int .i64 x22), (.int .i64 x23), (.cplx .f64 x24.1 x24.2), (.str x25), (.int .i64 x26), (.int .i64 x27), x28, .nils, .nils, (.int .i64 3), (.int .i64 0), (.int .i64 x29), (.int .i64 x30), (.cplx .f64 x31.1 x31.2), (.str x32), (.int .i64 x33), (.int .i64 x34), x35, .nils, .nils]]) : Option H).bind fun h36 =>
(g4 (x1, (.sl (h21).length 0 0 2 11 (some 2)), h36)).bind fun (x37, x38, x39, x40, x41, x42, x43, x44, x45, x46, h47) =>
(if (x11 == 0) = true then (
some ((x20 == 0), h47))
else (
some (false, h47))).bind fun (b48, h49) =>
(if b48 = true then (
some ((x46 == 0), h49))
else (
some (false, h49))).bind fun (b50, h51) =>
(if b50 = true then (
some ((x44 == 0), h51))
else (
some (false, h51))).bind fun (b52, h53) =>
(if b52 = true then (
(g1 ((ByteArray.mk #[97]), h53)).bind fun (x56, x57, x58, x59, x60, x61, x62, _) =>
(g5 (x37, x38, (x39.1, x39.2), x40, x41, x42, x43, x56, x57, (x58.1, x58.2), x59, x60, x61, x62, h53)).bind fun (x63, _) =>
some (x63, h53))
else (
some (false, h53))).bind fun (b54, h55) =>
(if b54 = true then (
(g6 (x1, 0, h55)).bind fun (x66, h67) =>
some ((x66 == 1), h67))
else (
some (false, h55))).bind fun (b64, h65) =>
(if b64 = true then (
(g6 (x1, 1, h65)).bind fun (x70, h71) =>
some ((x70 == 0), h71))
else (
some (false, h65))).bind fun (b68, h69) =>
some (b68, h69)))) = evFT ⟨Try.prog, 58, inTab [4], inTab [], natTab [(4, 4)], inTab [], calTab [(45, .full (mkFun ks45 rs45 (g0))), (46, .ro (mkFun ks46 rs46 (g1))), (11, .full (mkFun ks11 rs11 (g2))), (5, .ro (mkFun ks5 rs5 (g3))), (10, .full (mkFun ks10 rs10 (g4))), (47, .ro (mkFun ks47 rs47 (g5))), (14, .full (mkFun ks14 rs14 (g6)))], altTab [], loopTab [], natTab []⟩ N Try.f17 ks17 rs17 h := by kernel_rfl
theorem fine17 (N : Nat) : Fine (e17 N) N 17 Try.f17 ks17 rs17 (F17 N) :=
  ⟨Try.func17, by kernel_rfl, by kernel_rfl, by kernel_rfl, loops_of trivial, by kernel_rfl, by kernel_rfl, fun h => lk17 N (F45 N) (F46 N) (F11 N) (F5 N) (F10 N) (F47 N N) (F14 N) h⟩
theorem good17 (N : Nat) : Go.L.Good (e17 N) := good_of ⟨gd45 N, ⟨gd46 N, ⟨gd11 N, ⟨gd5 N, ⟨gd10 N, ⟨gd47 N N, ⟨gd14 N, trivial⟩⟩⟩⟩⟩⟩⟩
theorem gd17 : CalOk Try.prog 17 (.pure (mkP ks17 rs17 (F17 100))) := mkP_good (fine17 100) (good17 100) (by kernel_rfl) (by kernel_rfl)

/-! ### 4: carousellaw12.BoxNil -/
noncomputable def L4_0 (N : Nat) : Nat → Int × V × Int × H → Option ((H) ⊕ (Bool × H))
  | 0, _ => none
  | n + 1, (x60, x61, x62, h63) =>
    (slen x61).bind fun n64 =>
    (if (decide (x62 < n64)) = true then (
    (sidx x61 x62 1).bind fun q65 =>
    ((rd h63 q65 0)).bind fun x66 =>
    (F9 N (x66, h63)).bind fun h67 =>
    (some (h67 ++ [O.cells 0 [(.int .i64 1), (.int .i64 0), (.int .i64 0), (.int .i64 0), (.cplx .f64 0 0), (.str (ByteArray.mk #[])), (.int .i64 0), (.int .i64 0), .nils, .nils, .nils]]) : Option H).bind fun h68 =>
    (F10 N (x66, (.sl (h67).length 0 0 1 11 (some 1)), h68)).bind fun (x69, x70, x71, x72, x73, x74, x75, x76, x77, x78, h79) =>
    (F12 N h79).bind fun (x80, x81, x82, x83, x84, x85, x86, _) =>
    (F11 N (x66, x60, x80, x81, (x82.1, x82.2), x83, x84, x85, x86, h79)).bind fun (x87, h88) =>
    (if (x87 != 1) = true then (
    some (true, h88))
    else (
    some ((x78 != 1), h88))).bind fun (b89, h90) =>
    (if b89 = true then (
    some (true, h90))
    else (
    some ((x69 != 0), h90))).bind fun (b91, h92) =>
    (if b91 = true then (
    some (true, h92))
    else (
    some ((x76 != 0), h92))).bind fun (b93, h94) =>
    (if b93 = true then (
    some (true, h94))
    else (
    (slen x77).bind fun n97 =>
    some ((n97 != 0), h94))).bind fun (b95, h96) =>
    (if b95 = true then (
    some (true, h96))
    else (
    (F13 N (x66, h96)).bind fun (cs100, _) =>
    (L.asAgg 2 (some (.agg cs100))).bind fun cs101 =>
    (aggEq Try.prog 36 cs101 [(.int .i64 0), (.int .i64 0)]).bind fun b102 =>
    some ((!b102), h96))).bind fun (b98, h99) =>
    (if b98 = true then (
    some (true, h99))
    else (
    (F14 N (x66, x60, h99)).bind fun (x105, h106) =>
    some ((x105 != 0), h106))).bind fun (b103, h104) =>
    (if b103 = true then (
    some (true, h104))
    else (
    (F15 N (x66, x60, h104)).bind fun (x109, h110) =>
    (slen x109).bind fun n111 =>
    some ((n111 != 0), h110))).bind fun (b107, h108) =>
    (if b107 = true then (
    some (true, h108))
    else (
    (F16 N (x66, h108)).bind fun (x114, h115) =>
    (isNil x114).bind fun b116 =>
    some ((!b116), h115))).bind fun (b112, h113) =>
    (if b112 = true then (
    some (.inr (false, h113)))
    else (
    L4_0 N n (x60, x61, (IntKind.i64.wrap (x62 + 1)), h113))))
    else (
    some (.inl h63)))
noncomputable def F4 (N : Nat) : Int × H → Option (Bool × H)
  | (a0, h) =>
    (some (h ++ [O.cells 0 [(.bool false), .nils, .nils, (.int .i64 0), (.int .i64 0)]]) : Option H).bind fun h1 =>
    (some (h1 ++ [O.cells 0 [.nilp, (.ptr (h).length 0 0)]]) : Option H).bind fun h2 =>
    (L4_0 N N (a0, (.sl (h1).length 0 0 2 1 (some 2)), 0, h2)).bind fun o117 => match o117 with
    | .inl h118 => (
    (F17 100 []).bind fun (x119, _) =>
    some (x119, h118))
    | .inr (x120, h121) => (
    some (x120, h121))
abbrev ks4 : List SK := [.one (.int .i64)]
abbrev rs4 : List SK := [.one .bool]
noncomputable def e4 (N : Nat) : Env := ⟨Try.prog, 82, inTab [6], inTab [], natTab [(6, 6), (44, 6)], inTab [], calTab [(9, .full (mkFun ks9 rs9 (F9 N))), (10, .full (mkFun ks10 rs10 (F10 N))), (12, .ro (mkFun ks12 rs12 (F12 N))), (11, .full (mkFun ks11 rs11 (F11 N))), (13, .ro (mkFun ks13 rs13 (F13 N))), (14, .full (mkFun ks14 rs14 (F14 N))), (15, .full (mkFun ks15 rs15 (F15 N))), (16, .full (mkFun ks16 rs16 (F16 N))), (17, .pure (mkP ks17 rs17 (F17 100)))], altTab [], loopTab [(3, ⟨⟨.normal, [0, 3, 4], [.one (.int .i64), .one .ref, .one (.int .i64)], [], []⟩, [⟨(.exit 0), [], [], [], []⟩, ⟨.ret, [2], [.one .bool], [], []⟩], L4_0 N⟩)], natTab []⟩
theorem l4_0 (N : Nat) : ∀ A, (e4 N).lp (lid (loopAt Try.f4 0)) = some A → LoopOk (e4 N) N (loopAt Try.f4 0) A :=
  loopOk_of (A := ⟨⟨.normal, [0, 3, 4], [.one (.int .i64), .one .ref, .one (.int .i64)], [], []⟩, [⟨(.exit 0), [], [], [], []⟩, ⟨.ret, [2], [.one .bool], [], []⟩], L4_0 N⟩) (by kernel_rfl) (fun _ => rfl) (fun _ _ => by kernel_rfl)
theorem lk4 (N : Nat) (g0 : V × H → Option (H)) (g1 : V × V × H → Option (Int × Int × (Nat × Nat) × ByteArray × Int × Int × V × Int × V × Int × H)) (g2 : H → Option (Int × Int × (Nat × Nat) × ByteArray × Int × Int × V × H)) (g3 : V × Int × Int × Int × (Nat × Nat) × ByteArray × Int × Int × V × H → Option (Int × H)) (g4 : V × H → Option (List V × H)) (g5 : V × Int × H → Option (Int × H)) (g6 : V × Int × H → Option (V × H)) (g7 : V × H → Option (V × H)) (g8 : H → Option (Bool × H)) (g9 : Nat → Int × V × Int × H → Option ((H) ⊕ (Bool × H))) (a0 : Int) (h : H) :
    ((some (h ++ [O.cells 0 [(.bool false), .nils, .nils, (.int .i64 0), (.int .i64 0)]]) : Option H).bind fun h1 =>
(some (h1 ++ [O.cells 0 [.nilp, (.ptr (h).length 0 0)]]) : Option H).bind fun h2 =>
(g9 N (a0, (.sl (h1).length 0 0 2 1 (some 2)), 0, h2)).bind fun o117 => match o117 with
| .inl h118 => (
(g8 []).bind fun (x119, _) =>
some (x119, h118))
| .inr (x120, h121) => (
some (x120, h121))) = evFT ⟨Try.prog, 82, inTab [6], inTab [], natTab [(6, 6), (44, 6)], inTab [], calTab [(9, .full (mkFun ks9 rs9 (g0))), (10, .full (mkFun ks10 rs10 (g1))), (12, .ro (mkFun ks12 rs12 (g2))), (11, .full (mkFun ks11 rs11 (g3))), (13, .ro (mkFun ks13 rs13 (g4))), (14, .full (mkFun ks14 rs14 (g5))), (15, .full (mkFun ks15 rs15 (g6))), (16, .full (mkFun ks16 rs16 (g7))), (17, .pure (mkP ks17 rs17 (g8)))], altTab [], loopTab [(3, ⟨⟨.normal, [0, 3, 4], [.one (.int .i64), .one .ref, .one (.int .i64)], [], []⟩, [⟨(.exit 0), [], [], [], []⟩, ⟨.ret, [2], [.one .bool], [], []⟩], g9⟩)], natTab []⟩ N Try.f4 ks4 rs4 (a0, h) := by kernel_rfl
theorem fine4 (N : Nat) : Fine (e4 N) N 4 Try.f4 ks4 rs4 (F4 N) :=
  ⟨Try.func4, by kernel_rfl, by kernel_rfl, by kernel_rfl, loops_of ⟨l4_0 N, trivial⟩, by kernel_rfl, by kernel_rfl, fun ⟨a0, h⟩ => lk4 N (F9 N) (F10 N) (F12 N) (F11 N) (F13 N) (F14 N) (F15 N) (F16 N) (F17 100) (L4_0 N) a0 h⟩
theorem good4 (N : Nat) : Go.L.Good (e4 N) := good_of ⟨gd9 N, ⟨gd10 N, ⟨gd12 N, ⟨gd11 N, ⟨gd13 N, ⟨gd14 N, ⟨gd15 N, ⟨gd16 N, ⟨gd17, trivial⟩⟩⟩⟩⟩⟩⟩⟩⟩
theorem gd4 (N : Nat) : CalOk Try.prog 4 (.full (mkFun ks4 rs4 (F4 N))) := mkFun_good (fine4 N) (good4 N)

end Go.Proofs.Ytkhnngghmlpbeaa
