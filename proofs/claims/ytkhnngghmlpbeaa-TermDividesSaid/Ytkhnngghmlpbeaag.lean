/- The functions that the laws reach, as plain ones (printed by gen.py). -/
import Derived.Test.YtkhnngghmlpbeaaL39
import Derived.Test.YtkhnngghmlpbeaaChecked
import Derived.KernelRfl
set_option linter.unusedVariables false
namespace Go.Proofs.Ytkhnngghmlpbeaa
open Go.L

/-! ### 5: carouselref03.Int -/
noncomputable def F5 (N : Nat) : Int × H → Option (Int × Int × (Nat × Nat) × ByteArray × Int × Int × V × H)
  | (a0, h) =>
    some (3, a0, (0, 0), (ByteArray.mk #[]), 0, 0, .nils, h)
abbrev ks5 : List SK := [.one (.int .i64)]
abbrev rs5 : List SK := [.agg [(.int .i64), (.int .i64), (.cplx .f64), .str, (.int .i64), (.int .i64), .ref]]
noncomputable def e5 (N : Nat) : Env := ⟨Try.prog, 5, inTab [2], inTab [], natTab [(2, 2)], inTab [], calTab [], altTab [], loopTab [], natTab []⟩
theorem fine5 (N : Nat) : Fine (e5 N) N 5 Try.f5 ks5 rs5 (F5 N) :=
  ⟨Try.func5, by kernel_rfl, by kernel_rfl, by kernel_rfl, loops_of trivial, by kernel_rfl, by kernel_rfl, fun _ => by kernel_rfl⟩
theorem good5 (N : Nat) : Go.L.Good (e5 N) := good_of trivial
theorem gd5 (N : Nat) : CalOk Try.prog 5 (.ro (mkFun ks5 rs5 (F5 N))) := mkFun_ro (fine5 N) (good5 N) (by kernel_rfl)

/-! ### 79: term.own$1 -/
noncomputable def F79 (N : Nat) : Bool × Bool × Bool × Bool × Bool × V × H → Option (Bool × H)
  | (a0, a1, a2, a3, a4, a5, h) =>
    (if a0 = true then (
    some (true, h))
    else (
    (nck a5).bind fun _ =>
    (L.asInt .i64 (rd h (padd a5 1) 0)).bind fun x3 =>
    some ((x3 == 0), h))).bind fun (b1, h2) =>
    (if b1 = true then (
    (if a1 = true then (
    some (true, h2))
    else (
    (nck a5).bind fun _ =>
    (L.asCplx .f64 (rd h2 (padd a5 2) 0)).bind fun x8 =>
    some ((Op.floatEq .f64 x8.1 0 && Op.floatEq .f64 x8.2 0), h2))).bind fun (b6, h7) =>
    some (b6, h7))
    else (
    some (false, h2))).bind fun (b4, h5) =>
    (if b4 = true then (
    (if a2 = true then (
    some (true, h5))
    else (
    (nck a5).bind fun _ =>
    (L.asStr (rd h5 (padd a5 3) 0)).bind fun x13 =>
    some (((x13).toList == ((ByteArray.mk #[])).toList), h5))).bind fun (b11, h12) =>
    some (b11, h12))
    else (
    some (false, h5))).bind fun (b9, h10) =>
    (if b9 = true then (
    (if a3 = true then (
    some (true, h10))
    else (
    (nck a5).bind fun _ =>
    (L.asInt .i64 (rd h10 (padd a5 4) 0)).bind fun x18 =>
    (L.asInt .i64 (rd h10 (padd a5 4) 1)).bind fun x19 =>
    some (((x18 == 0) && ((x19 == 0) && true)), h10))).bind fun (b16, h17) =>
    some (b16, h17))
    else (
    some (false, h10))).bind fun (b14, h15) =>
    (if b14 = true then (
    (if a4 = true then (
    some (true, h15))
    else (
    (nck a5).bind fun _ =>
    ((rd h15 (padd a5 6) 0)).bind fun x24 =>
    (slen x24).bind fun n25 =>
    some ((n25 == 0), h15))).bind fun (b22, h23) =>
    some (b22, h23))
    else (
    some (false, h15))).bind fun (b20, h21) =>
    some (b20, h21)
abbrev ks79 : List SK := [.one .bool, .one .bool, .one .bool, .one .bool, .one .bool, .one .ref]
abbrev rs79 : List SK := [.one .bool]
noncomputable def e79 (N : Nat) : Env := ⟨Try.prog, 52, inTab [], inTab [], natTab [], inTab [], calTab [], altTab [], loopTab [], natTab []⟩
theorem fine79 (N : Nat) : Fine (e79 N) N 79 Try.f79 ks79 rs79 (F79 N) :=
  ⟨Try.func79, by kernel_rfl, by kernel_rfl, by kernel_rfl, loops_of trivial, by kernel_rfl, by kernel_rfl, fun _ => by kernel_rfl⟩
theorem good79 (N : Nat) : Go.L.Good (e79 N) := good_of trivial
theorem gd79 (N : Nat) : CalOk Try.prog 79 (.ro (mkFun ks79 rs79 (F79 N))) := mkFun_ro (fine79 N) (good79 N) (by kernel_rfl)

/-! ### 84: math.archTrunc -/
set_option maxRecDepth 100000 in
theorem gd84 : CalOk Try.prog 84 (.ext (mkP [.one (.float .f64)] [.one (.float .f64)] truncX)) := ext_trunc Try.func84 (by kernel_rfl) (by kernel_rfl) (by kernel_rfl) (by kernel_rfl)

/-! ### 86: math.Float64bits -/
set_option maxRecDepth 100000 in
theorem gd86 : CalOk Try.prog 86 (.ext (mkP [.one (.float .f64)] [.one (.int .u64)] bitsX)) := ext_bits Try.func86 (by kernel_rfl) (by kernel_rfl) (by kernel_rfl) (by kernel_rfl)

/-! ### 89: math.Float64frombits -/
set_option maxRecDepth 100000 in
theorem gd89 : CalOk Try.prog 89 (.ext (mkP [.one (.int .u64)] [.one (.float .f64)] fromX)) := ext_from Try.func89 (by kernel_rfl) (by kernel_rfl) (by kernel_rfl) (by kernel_rfl)

/-! ### 87: math.Abs -/
noncomputable def F87 (N : Nat) : Nat × H → Option (Nat × H)
  | (a0, h) =>
    (bitsX (a0, [])).bind fun (x1, _) =>
    (fromX ((IntKind.u64.wrap (((BitVec.ofInt IntKind.u64.bits x1) &&& ~~~ (BitVec.ofInt IntKind.u64.bits 9223372036854775808)).toNat)), [])).bind fun (x2, _) =>
    some (x2, h)
abbrev ks87 : List SK := [.one (.float .f64)]
abbrev rs87 : List SK := [.one (.float .f64)]
noncomputable def e87 (N : Nat) : Env := ⟨Try.prog, 7, inTab [], inTab [], natTab [], inTab [], calTab [(86, .ext (mkP [.one (.float .f64)] [.one (.int .u64)] bitsX)), (89, .ext (mkP [.one (.int .u64)] [.one (.float .f64)] fromX))], altTab [], loopTab [], natTab []⟩
theorem fine87 (N : Nat) : Fine (e87 N) N 87 Try.f87 ks87 rs87 (F87 N) :=
  ⟨Try.func87, by kernel_rfl, by kernel_rfl, by kernel_rfl, loops_of trivial, by kernel_rfl, by kernel_rfl, fun _ => by kernel_rfl⟩
theorem good87 (N : Nat) : Go.L.Good (e87 N) := good_of ⟨gd86, ⟨gd89, trivial⟩⟩
theorem gd87 : CalOk Try.prog 87 (.pure (mkP ks87 rs87 (F87 100))) := mkP_good (fine87 100) (good87 100) (by kernel_rfl) (by kernel_rfl)

/-! ### 88: math.Copysign -/
noncomputable def F88 (N : Nat) : Nat × Nat × H → Option (Nat × H)
  | (a0, a1, h) =>
    (bitsX (a0, [])).bind fun (x1, _) =>
    (bitsX (a1, [])).bind fun (x2, _) =>
    (fromX ((IntKind.u64.wrap (((BitVec.ofInt IntKind.u64.bits (IntKind.u64.wrap (((BitVec.ofInt IntKind.u64.bits x1) &&& ~~~ (BitVec.ofInt IntKind.u64.bits 9223372036854775808)).toNat))) ||| (BitVec.ofInt IntKind.u64.bits (IntKind.u64.wrap (((BitVec.ofInt IntKind.u64.bits x2) &&& (BitVec.ofInt IntKind.u64.bits 9223372036854775808)).toNat)))).toNat)), [])).bind fun (x3, _) =>
    some (x3, h)
abbrev ks88 : List SK := [.one (.float .f64), .one (.float .f64)]
abbrev rs88 : List SK := [.one (.float .f64)]
noncomputable def e88 (N : Nat) : Env := ⟨Try.prog, 13, inTab [], inTab [], natTab [], inTab [], calTab [(86, .ext (mkP [.one (.float .f64)] [.one (.int .u64)] bitsX)), (89, .ext (mkP [.one (.int .u64)] [.one (.float .f64)] fromX))], altTab [], loopTab [], natTab []⟩
theorem fine88 (N : Nat) : Fine (e88 N) N 88 Try.f88 ks88 rs88 (F88 N) :=
  ⟨Try.func88, by kernel_rfl, by kernel_rfl, by kernel_rfl, loops_of trivial, by kernel_rfl, by kernel_rfl, fun _ => by kernel_rfl⟩
theorem good88 (N : Nat) : Go.L.Good (e88 N) := good_of ⟨gd86, ⟨gd89, trivial⟩⟩
theorem gd88 : CalOk Try.prog 88 (.pure (mkP ks88 rs88 (F88 100))) := mkP_good (fine88 100) (good88 100) (by kernel_rfl) (by kernel_rfl)

/-! ### 85: math.trunc -/
noncomputable def F85 (N : Nat) : Nat × H → Option (Nat × H)
  | (a0, h) =>
    (F87 100 (a0, [])).bind fun (x1, _) =>
    (if ((FloatKind.f64.format.order x1 4607182418800017408) == some .lt) = true then (
    (F88 100 (0, a0, [])).bind fun (x2, _) =>
    some (x2, h))
    else (
    (bitsX (a0, [])).bind fun (x3, _) =>
    ((if (decide ((IntKind.u64.wrap ((IntKind.u64.wrap (((BitVec.ofInt IntKind.u64.bits (Int.fdiv x3 (2 ^ (min (Int.toNat 52) IntKind.u64.bits)))) &&& (BitVec.ofInt IntKind.u64.bits 2047)).toNat)) - 1023)) < 52)) = true then (
    (if (IntKind.u64.wrap (52 - (IntKind.u64.wrap ((IntKind.u64.wrap (((BitVec.ofInt IntKind.u64.bits (Int.fdiv x3 (2 ^ (min (Int.toNat 52) IntKind.u64.bits)))) &&& (BitVec.ofInt IntKind.u64.bits 2047)).toNat)) - 1023)))) < 0 then none else (
    some ((IntKind.u64.wrap (((BitVec.ofInt IntKind.u64.bits x3) &&& ~~~ (BitVec.ofInt IntKind.u64.bits (IntKind.u64.wrap ((IntKind.u64.wrap (1 * 2 ^ (min (Int.toNat (IntKind.u64.wrap (52 - (IntKind.u64.wrap ((IntKind.u64.wrap (((BitVec.ofInt IntKind.u64.bits (Int.fdiv x3 (2 ^ (min (Int.toNat 52) IntKind.u64.bits)))) &&& (BitVec.ofInt IntKind.u64.bits 2047)).toNat)) - 1023))))) IntKind.u64.bits))) - 1)))).toNat)), h))))
    else (
    some (x3, h))) : Option (Int × H)).bind fun (x4, h5) =>
    (fromX (x4, [])).bind fun (x6, _) =>
    some (x6, h5)))
abbrev ks85 : List SK := [.one (.float .f64)]
abbrev rs85 : List SK := [.one (.float .f64)]
noncomputable def e85 (N : Nat) : Env := ⟨Try.prog, 26, inTab [], inTab [], natTab [], inTab [], calTab [(87, .pure (mkP ks87 rs87 (F87 100))), (88, .pure (mkP ks88 rs88 (F88 100))), (86, .ext (mkP [.one (.float .f64)] [.one (.int .u64)] bitsX)), (89, .ext (mkP [.one (.int .u64)] [.one (.float .f64)] fromX))], altTab [(393233, [⟨.normal, [3], [.one (.int .u64)], [], []⟩])], loopTab [], natTab []⟩
theorem fine85 (N : Nat) : Fine (e85 N) N 85 Try.f85 ks85 rs85 (F85 N) :=
  ⟨Try.func85, by kernel_rfl, by kernel_rfl, by kernel_rfl, loops_of trivial, by kernel_rfl, by kernel_rfl, fun _ => by kernel_rfl⟩
theorem good85 (N : Nat) : Go.L.Good (e85 N) := good_of ⟨gd87, ⟨gd88, ⟨gd86, ⟨gd89, trivial⟩⟩⟩⟩
theorem gd85 : CalOk Try.prog 85 (.pure (mkP ks85 rs85 (F85 100))) := mkP_good (fine85 100) (good85 100) (by kernel_rfl) (by kernel_rfl)

/-! ### 82: math.Trunc -/
noncomputable def F82 (N : Nat) : Nat × H → Option (Nat × H)
  | (a0, h) =>
    (if true = true then (
    (truncX (a0, [])).bind fun (x1, _) =>
    some (x1, h))
    else (
    (F85 100 (a0, [])).bind fun (x2, _) =>
    some (x2, h)))
abbrev ks82 : List SK := [.one (.float .f64)]
abbrev rs82 : List SK := [.one (.float .f64)]
noncomputable def e82 (N : Nat) : Env := ⟨Try.prog, 7, inTab [], inTab [], natTab [], inTab [], calTab [(84, .ext (mkP [.one (.float .f64)] [.one (.float .f64)] truncX)), (85, .pure (mkP ks85 rs85 (F85 100)))], altTab [], loopTab [], natTab []⟩
theorem fine82 (N : Nat) : Fine (e82 N) N 82 Try.f82 ks82 rs82 (F82 N) :=
  ⟨Try.func82, by kernel_rfl, by kernel_rfl, by kernel_rfl, loops_of trivial, by kernel_rfl, by kernel_rfl, fun _ => by kernel_rfl⟩
theorem good82 (N : Nat) : Go.L.Good (e82 N) := good_of ⟨gd84, ⟨gd85, trivial⟩⟩
theorem gd82 : CalOk Try.prog 82 (.pure (mkP ks82 rs82 (F82 100))) := mkP_good (fine82 100) (good82 100) (by kernel_rfl) (by kernel_rfl)

/-! ### 83: math.Signbit -/
noncomputable def F83 (N : Nat) : Nat × H → Option (Bool × H)
  | (a0, h) =>
    (bitsX (a0, [])).bind fun (x1, _) =>
    some ((decide ((IntKind.i64.wrap x1) < 0)), h)
abbrev ks83 : List SK := [.one (.float .f64)]
abbrev rs83 : List SK := [.one .bool]
noncomputable def e83 (N : Nat) : Env := ⟨Try.prog, 7, inTab [], inTab [], natTab [], inTab [], calTab [(86, .ext (mkP [.one (.float .f64)] [.one (.int .u64)] bitsX))], altTab [], loopTab [], natTab []⟩
theorem fine83 (N : Nat) : Fine (e83 N) N 83 Try.f83 ks83 rs83 (F83 N) :=
  ⟨Try.func83, by kernel_rfl, by kernel_rfl, by kernel_rfl, loops_of trivial, by kernel_rfl, by kernel_rfl, fun _ => by kernel_rfl⟩
theorem good83 (N : Nat) : Go.L.Good (e83 N) := good_of ⟨gd86, trivial⟩
theorem gd83 : CalOk Try.prog 83 (.pure (mkP ks83 rs83 (F83 100))) := mkP_good (fine83 100) (good83 100) (by kernel_rfl) (by kernel_rfl)

/-! ### 80: term.whole -/
noncomputable def F80 (N : Nat) : Nat × H → Option (Bool × H)
  | (a0, h) =>
    (F82 100 (a0, [])).bind fun (x1, _) =>
    (if ((FloatKind.f64.format.order a0 x1) == some .eq) = true then (
    some (((FloatKind.f64.format.order a0 13965662444475908096) == some .gt || (FloatKind.f64.format.order a0 13965662444475908096) == some .eq), h))
    else (
    some (false, h))).bind fun (b2, h3) =>
    (if b2 = true then (
    some (((FloatKind.f64.format.order a0 4742290407621132288) == some .lt || (FloatKind.f64.format.order a0 4742290407621132288) == some .eq), h3))
    else (
    some (false, h3))).bind fun (b4, h5) =>
    (if b4 = true then (
    (if ((FloatKind.f64.format.order a0 0) != some .eq) = true then (
    some (true, h5))
    else (
    (F83 100 (a0, [])).bind fun (x10, _) =>
    some ((!x10), h5))).bind fun (b8, h9) =>
    some (b8, h9))
    else (
    some (false, h5))).bind fun (b6, h7) =>
    some (b6, h7)
abbrev ks80 : List SK := [.one (.float .f64)]
abbrev rs80 : List SK := [.one .bool]
noncomputable def e80 (N : Nat) : Env := ⟨Try.prog, 24, inTab [], inTab [], natTab [], inTab [], calTab [(82, .pure (mkP ks82 rs82 (F82 100))), (83, .pure (mkP ks83 rs83 (F83 100)))], altTab [], loopTab [], natTab []⟩
theorem fine80 (N : Nat) : Fine (e80 N) N 80 Try.f80 ks80 rs80 (F80 N) :=
  ⟨Try.func80, by kernel_rfl, by kernel_rfl, by kernel_rfl, loops_of trivial, by kernel_rfl, by kernel_rfl, fun _ => by kernel_rfl⟩
theorem good80 (N : Nat) : Go.L.Good (e80 N) := good_of ⟨gd82, ⟨gd83, trivial⟩⟩
theorem gd80 : CalOk Try.prog 80 (.pure (mkP ks80 rs80 (F80 100))) := mkP_good (fine80 100) (good80 100) (by kernel_rfl) (by kernel_rfl)

/-! ### 81: term.atom -/
noncomputable def L81_0 (N : Nat) : Nat → ByteArray × Int × H → Option ((H) ⊕ (Bool × H))
  | 0, _ => none
  | n + 1, (x27, x28, h29) =>
    (if (decide (x28 < ((x27).size : Int))) = true then (
    (if 0 ≤ x28 then (x27[Int.toNat x28]?.bind fun c30 =>
    (if (decide (((UInt8.toNat c30 : Nat) : Int) ≥ 97)) = true then (
    some ((decide (((UInt8.toNat c30 : Nat) : Int) ≤ 122)), h29))
    else (
    some (false, h29))).bind fun (b31, h32) =>
    (if b31 = true then (
    some (true, h32))
    else (
    (if (decide (x28 > 0)) = true then (
    (if (decide (((UInt8.toNat c30 : Nat) : Int) ≥ 65)) = true then (
    some ((decide (((UInt8.toNat c30 : Nat) : Int) ≤ 90)), h32))
    else (
    some (false, h32))).bind fun (b37, h38) =>
    (if b37 = true then (
    some (true, h38))
    else (
    (if (decide (((UInt8.toNat c30 : Nat) : Int) ≥ 48)) = true then (
    some ((decide (((UInt8.toNat c30 : Nat) : Int) ≤ 57)), h38))
    else (
    some (false, h38))).bind fun (b41, h42) =>
    some (b41, h42))).bind fun (b39, h40) =>
    (if b39 = true then (
    some (true, h40))
    else (
    some ((((UInt8.toNat c30 : Nat) : Int) == 95), h40))).bind fun (b43, h44) =>
    some (b43, h44))
    else (
    some (false, h32))).bind fun (b35, h36) =>
    some (b35, h36))).bind fun (b33, h34) =>
    (if b33 = true then (
    L81_0 N n (x27, (IntKind.i64.wrap (x28 + 1)), h34))
    else (
    some (.inr (false, h34))))) else none))
    else (
    some (.inl h29)))
noncomputable def F81 (N : Nat) : ByteArray × H → Option (Bool × H)
  | (a0, h) =>
    (if (decide (((a0).size : Int) < 1)) = true then (
    some (true, h))
    else (
    some ((decide (((a0).size : Int) > 64)), h))).bind fun (b1, h2) =>
    (if b1 = true then (
    some (true, h2))
    else (
    some (((a0).toList == ((ByteArray.mk #[110, 105, 108])).toList), h2))).bind fun (b3, h4) =>
    (if b3 = true then (
    some (true, h4))
    else (
    some (((a0).toList == ((ByteArray.mk #[116, 114, 117, 101])).toList), h4))).bind fun (b5, h6) =>
    (if b5 = true then (
    some (true, h6))
    else (
    some (((a0).toList == ((ByteArray.mk #[102, 97, 108, 115, 101])).toList), h6))).bind fun (b7, h8) =>
    (if b7 = true then (
    some (false, h8))
    else (
    (L81_0 N N (a0, 0, h8)).bind fun o45 => match o45 with
    | .inl h46 => (
    some (true, h46))
    | .inr (x47, h48) => (
    some (x47, h48))))
abbrev ks81 : List SK := [.one .str]
abbrev rs81 : List SK := [.one .bool]
noncomputable def e81 (N : Nat) : Env := ⟨Try.prog, 64, inTab [], inTab [], natTab [], inTab [], calTab [], altTab [], loopTab [(4, ⟨⟨.normal, [0, 3], [.one .str, .one (.int .i64)], [], []⟩, [⟨(.exit 0), [], [], [], []⟩, ⟨.ret, [2], [.one .bool], [], []⟩], L81_0 N⟩)], natTab []⟩
theorem l81_0 (N : Nat) : ∀ A, (e81 N).lp (lid (loopAt Try.f81 0)) = some A → LoopOk (e81 N) N (loopAt Try.f81 0) A :=
  loopOk_of (A := ⟨⟨.normal, [0, 3], [.one .str, .one (.int .i64)], [], []⟩, [⟨(.exit 0), [], [], [], []⟩, ⟨.ret, [2], [.one .bool], [], []⟩], L81_0 N⟩) (by kernel_rfl) (fun _ => rfl) (fun _ _ => by kernel_rfl)
theorem fine81 (N : Nat) : Fine (e81 N) N 81 Try.f81 ks81 rs81 (F81 N) :=
  ⟨Try.func81, by kernel_rfl, by kernel_rfl, by kernel_rfl, loops_of ⟨l81_0 N, trivial⟩, by kernel_rfl, by kernel_rfl, fun _ => by kernel_rfl⟩
theorem good81 (N : Nat) : Go.L.Good (e81 N) := good_of trivial
theorem gd81 : CalOk Try.prog 81 (.pure (mkP ks81 rs81 (F81 100))) := mkP_good (fine81 100) (good81 100) (by kernel_rfl) (by kernel_rfl)

/-! ### 76: term.own -/
noncomputable def F76 (N : Nat) : Int × Int × (Nat × Nat) × ByteArray × Int × Int × V × H → Option (Bool × H)
  | (a0_0, a0_1, a0_2, a0_3, a0_4, a0_5, a0_6, h) =>
    (some (h ++ [O.cells 0 [(.int .i64 a0_0), (.int .i64 a0_1), (.cplx .f64 a0_2.1 a0_2.2), (.str a0_3), (.int .i64 a0_4), (.int .i64 a0_5), a0_6]]) : Option H).bind fun h1 =>
    (L.asInt .i64 (rd h1 (.ptr (h).length 0 0) 0)).bind fun x2 =>
    (if (x2 == 1) = true then (
    (F79 N (false, false, false, false, false, (.ptr (h).length 0 0), h1)).bind fun (x3, _) =>
    some (x3, h1))
    else (
    (if (x2 == 2) = true then (
    (L.asInt .i64 (rd h1 (.ptr (h).length 0 1) 0)).bind fun x4 =>
    (if (x4 == 0) = true then (
    some (true, h1))
    else (
    (L.asInt .i64 (rd h1 (.ptr (h).length 0 1) 0)).bind fun x7 =>
    some ((x7 == 1), h1))).bind fun (b5, h6) =>
    (if b5 = true then (
    (F79 N (true, false, false, false, false, (.ptr (h).length 0 0), h6)).bind fun (x10, _) =>
    some (x10, h6))
    else (
    some (false, h6))).bind fun (b8, h9) =>
    some (b8, h9))
    else (
    (if (x2 == 3) = true then (
    (L.asInt .i64 (rd h1 (.ptr (h).length 0 1) 0)).bind fun x11 =>
    (if (decide (x11 ≥ (-4611686018427387903))) = true then (
    (L.asInt .i64 (rd h1 (.ptr (h).length 0 1) 0)).bind fun x14 =>
    some ((decide (x14 ≤ 4611686018427387903)), h1))
    else (
    some (false, h1))).bind fun (b12, h13) =>
    (if b12 = true then (
    (F79 N (true, false, false, false, false, (.ptr (h).length 0 0), h13)).bind fun (x17, _) =>
    some (x17, h13))
    else (
    some (false, h13))).bind fun (b15, h16) =>
    some (b15, h16))
    else (
    (if (x2 == 4) = true then (
    (L.asCplx .f64 (rd h1 (.ptr (h).length 0 2) 0)).bind fun x18 =>
    (F80 100 (x18.1, [])).bind fun (x19, _) =>
    (if x19 = true then (
    (L.asCplx .f64 (rd h1 (.ptr (h).length 0 2) 0)).bind fun x22 =>
    (F80 100 (x22.2, [])).bind fun (x23, _) =>
    some (x23, h1))
    else (
    some (false, h1))).bind fun (b20, h21) =>
    (if b20 = true then (
    (F79 N (false, true, false, false, false, (.ptr (h).length 0 0), h21)).bind fun (x26, _) =>
    some (x26, h21))
    else (
    some (false, h21))).bind fun (b24, h25) =>
    some (b24, h25))
    else (
    (if (x2 == 5) = true then (
    (L.asStr (rd h1 (.ptr (h).length 0 3) 0)).bind fun x27 =>
    (F81 100 (x27, [])).bind fun (x28, _) =>
    (if x28 = true then (
    (F79 N (false, false, true, false, false, (.ptr (h).length 0 0), h1)).bind fun (x31, _) =>
    some (x31, h1))
    else (
    some (false, h1))).bind fun (b29, h30) =>
    some (b29, h30))
    else (
    (if (x2 == 6) = true then (
    (L.asInt .i64 (rd h1 (.ptr (h).length 0 4) 0)).bind fun x32 =>
    (if (decide (x32 ≥ 0)) = true then (
    (L.asInt .i64 (rd h1 (.ptr (h).length 0 4) 0)).bind fun x35 =>
    some ((decide (x35 < 256)), h1))
    else (
    some (false, h1))).bind fun (b33, h34) =>
    (if b33 = true then (
    (L.asInt .i64 (rd h34 (.ptr (h).length 0 5) 0)).bind fun x38 =>
    some ((decide (x38 ≥ 1)), h34))
    else (
    some (false, h34))).bind fun (b36, h37) =>
    (if b36 = true then (
    (L.asInt .i64 (rd h37 (.ptr (h).length 0 5) 0)).bind fun x41 =>
    some ((decide (x41 ≤ 4611686018427387903)), h37))
    else (
    some (false, h37))).bind fun (b39, h40) =>
    (if b39 = true then (
    (F79 N (false, false, false, true, false, (.ptr (h).length 0 0), h40)).bind fun (x44, _) =>
    some (x44, h40))
    else (
    some (false, h40))).bind fun (b42, h43) =>
    some (b42, h43))
    else (
    (if (x2 == 7) = true then (
    (L.asInt .i64 (rd h1 (.ptr (h).length 0 1) 0)).bind fun x45 =>
    (if (decide (x45 ≥ 1)) = true then (
    (L.asInt .i64 (rd h1 (.ptr (h).length 0 1) 0)).bind fun x48 =>
    some ((decide (x48 ≤ 4611686018427387903)), h1))
    else (
    some (false, h1))).bind fun (b46, h47) =>
    (if b46 = true then (
    (F79 N (true, false, false, false, false, (.ptr (h).length 0 0), h47)).bind fun (x51, _) =>
    some (x51, h47))
    else (
    some (false, h47))).bind fun (b49, h50) =>
    some (b49, h50))
    else (
    ((if (x2 == 8) = true then (
    some ((.ptr (h).length 0 0), (x2 == 8), h1))
    else (
    some ((.ptr (h).length 0 0), (x2 == 9), h1))) : Option (V × Bool × H)).bind fun (x52, x53, h54) =>
    (if x53 = true then (
    (F79 N (false, false, false, false, true, x52, h54)).bind fun (x55, _) =>
    some (x55, h54))
    else (
    some (false, h54)))))))))))))))))
abbrev ks76 : List SK := [.agg [(.int .i64), (.int .i64), (.cplx .f64), .str, (.int .i64), (.int .i64), .ref]]
abbrev rs76 : List SK := [.one .bool]
noncomputable def e76 (N : Nat) : Env := ⟨Try.prog, 111, inTab [], inTab [], natTab [], inTab [], calTab [(79, .ro (mkFun ks79 rs79 (F79 N))), (80, .pure (mkP ks80 rs80 (F80 100))), (81, .pure (mkP ks81 rs81 (F81 100)))], altTab [(4831838314, [⟨.normal, [3, 106], [.clo 79 [.ref], .one .bool], [], []⟩])], loopTab [], natTab []⟩
theorem fine76 (N : Nat) : Fine (e76 N) N 76 Try.f76 ks76 rs76 (F76 N) :=
  ⟨Try.func76, by kernel_rfl, by kernel_rfl, by kernel_rfl, loops_of trivial, by kernel_rfl, by kernel_rfl, fun _ => by kernel_rfl⟩
theorem good76 (N : Nat) : Go.L.Good (e76 N) := good_of ⟨gd79 N, ⟨gd80, ⟨gd81, trivial⟩⟩⟩
theorem gd76 (N : Nat) : CalOk Try.prog 76 (.full (mkFun ks76 rs76 (F76 N))) := mkFun_good (fine76 N) (good76 N)

/-! ### 68: term.walk -/
noncomputable def L68_0 (N : Nat) (rec : Int × Int × (Nat × Nat) × ByteArray × Int × Int × V × Int × V × V × H → Option (Int × H)) : Nat → Int × V × V × Int × Int × Int × Int × (Nat × Nat) × ByteArray × Int × Int × V × H → Option ((H) ⊕ (Int × H))
  | 0, _ => none
  | n + 1, (x34, x35, x36, x37, x38, x39, x40, x41, x42, x43, x44, x45, h46) =>
    (if (decide (x38 < x37)) = true then (
    (sidx x45 x38 7).bind fun q47 =>
    (L.asInt .i64 (rd h46 q47 0)).bind fun x48 =>
    (L.asInt .i64 (rd h46 q47 1)).bind fun x49 =>
    (L.asCplx .f64 (rd h46 q47 2)).bind fun x50 =>
    (L.asStr (rd h46 q47 3)).bind fun x51 =>
    (L.asInt .i64 (rd h46 q47 4)).bind fun x52 =>
    (L.asInt .i64 (rd h46 q47 5)).bind fun x53 =>
    ((rd h46 q47 6)).bind fun x54 =>
    (rec (x48, x49, (x50.1, x50.2), x51, x52, x53, x54, (IntKind.i64.wrap (x34 + 1)), x35, x36, h46)).bind fun (x55, h56) =>
    (if (x55 != 0) = true then (
    some (.inr (x55, h56)))
    else (
    L68_0 N rec n (x34, x35, x36, x37, (IntKind.i64.wrap (x38 + 1)), x39, x40, (x41.1, x41.2), x42, x43, x44, x45, h56))))
    else (
    some (.inl h46)))
noncomputable def F68 (N : Nat) : Nat → Int × Int × (Nat × Nat) × ByteArray × Int × Int × V × Int × V × V × H → Option (Int × H)
  | 0, _ => none
  | d + 1, (a0_0, a0_1, a0_2, a0_3, a0_4, a0_5, a0_6, a1, a2, a3, h) =>
    (nck a2).bind fun _ =>
    (L.asInt .i64 (rd h a2 0)).bind fun x1 =>
    (nck a2).bind fun _ =>
    (wr h a2 [(.int .i64 (IntKind.i64.wrap (x1 + 1)))]).bind fun h2 =>
    (nck a3).bind fun _ =>
    (L.asInt .i64 (rd h2 a3 0)).bind fun x3 =>
    (nck a3).bind fun _ =>
    (wr h2 a3 [(.int .i64 (if a1 > x3 then a1 else x3))]).bind fun h4 =>
    (nck a2).bind fun _ =>
    (L.asInt .i64 (rd h4 a2 0)).bind fun x5 =>
    (if (decide (x5 > 1024)) = true then (
    some (true, h4))
    else (
    some ((decide (a1 > 64)), h4))).bind fun (b6, h7) =>
    (if b6 = true then (
    some (34, h7))
    else (
    (F76 N (a0_0, a0_1, (a0_2.1, a0_2.2), a0_3, a0_4, a0_5, a0_6, h7)).bind fun (x8, h9) =>
    (if (!x8) = true then (
    some (30, h9))
    else (
    (slen a0_6).bind fun n10 =>
    (L68_0 N (F68 N d) N (a1, a2, a3, n10, 0, a0_0, a0_1, (a0_2.1, a0_2.2), a0_3, a0_4, a0_5, a0_6, h9)).bind fun o57 => match o57 with
    | .inl h58 => (
    some (0, h58))
    | .inr (x59, h60) => (
    some (x59, h60))))))
abbrev ks68 : List SK := [.agg [(.int .i64), (.int .i64), (.cplx .f64), .str, (.int .i64), (.int .i64), .ref], .one (.int .i64), .one .ref, .one .ref]
abbrev rs68 : List SK := [.one (.int .i64)]
noncomputable def e68 (N d : Nat) : Env := ⟨Try.prog, 54, inTab [4], inTab [], natTab [(4, 4), (34, 4), (40, 4)], inTab [], calTab [(76, .full (mkFun ks76 rs76 (F76 N))), (68, .full (mkFun ks68 rs68 (F68 N d)))], altTab [], loopTab [(8, ⟨⟨.normal, [1, 2, 3, 4, 36, 37], [.one (.int .i64), .one .ref, .one .ref, .lp 4 0, .one (.int .i64), .one (.int .i64)], [4], [.cells [(.int .i64), (.int .i64), (.cplx .f64), .str, (.int .i64), (.int .i64), .ref]]⟩, [⟨(.exit 0), [], [], [], []⟩, ⟨.ret, [8], [.one (.int .i64)], [], []⟩], L68_0 N (F68 N d)⟩)], natTab []⟩
theorem l68_0 (N d : Nat) : ∀ A, (e68 N d).lp (lid (loopAt Try.f68 0)) = some A → LoopOk (e68 N d) N (loopAt Try.f68 0) A :=
  loopOk_of (A := ⟨⟨.normal, [1, 2, 3, 4, 36, 37], [.one (.int .i64), .one .ref, .one .ref, .lp 4 0, .one (.int .i64), .one (.int .i64)], [4], [.cells [(.int .i64), (.int .i64), (.cplx .f64), .str, (.int .i64), (.int .i64), .ref]]⟩, [⟨(.exit 0), [], [], [], []⟩, ⟨.ret, [8], [.one (.int .i64)], [], []⟩], L68_0 N (F68 N d)⟩) (by kernel_rfl) (fun _ => rfl) (fun _ _ => by kernel_rfl)
theorem fine68 (N d : Nat) : Fine (e68 N d) N 68 Try.f68 ks68 rs68 (F68 N (d + 1)) :=
  ⟨Try.func68, by kernel_rfl, by kernel_rfl, by kernel_rfl, loops_of ⟨l68_0 N d, trivial⟩, by kernel_rfl, by kernel_rfl, fun _ => by kernel_rfl⟩
theorem gd68 (N : Nat) : ∀ d, CalOk Try.prog 68 (.full (mkFun ks68 rs68 (F68 N d)))
  | 0 => fun vs h s he => by obtain ⟨t, _, he⟩ := Option.bind_eq_some_iff.1 he; cases he
  | d + 1 => mkFun_good (fine68 N d) (good_of ⟨gd76 N, ⟨gd68 N d, trivial⟩⟩)
theorem good68 (N d : Nat) : Go.L.Good (e68 N d) := good_of ⟨gd76 N, ⟨gd68 N d, trivial⟩⟩

/-! ### 62: term.Parts -/
noncomputable def F62 (N : Nat) : Int × Int × (Nat × Nat) × ByteArray × Int × Int × V × H → Option (Int × Int × Int × H)
  | (a0_0, a0_1, a0_2, a0_3, a0_4, a0_5, a0_6, h) =>
    (some (h ++ [O.cells 0 [(.int .i64 0)]]) : Option H).bind fun h1 =>
    (some (h1 ++ [O.cells 0 [(.int .i64 0)]]) : Option H).bind fun h2 =>
    (F68 N N (a0_0, a0_1, (a0_2.1, a0_2.2), a0_3, a0_4, a0_5, a0_6, 1, (.ptr (h).length 0 0), (.ptr (h1).length 0 0), h2)).bind fun (x3, h4) =>
    (if (x3 != 0) = true then (
    (wr h4 (.ptr (h).length 0 0) [(.int .i64 0)]).bind fun h5 =>
    (wr h5 (.ptr (h1).length 0 0) [(.int .i64 0)]).bind fun h6 =>
    (L.asInt .i64 (rd h6 (.ptr (h).length 0 0) 0)).bind fun x7 =>
    (L.asInt .i64 (rd h6 (.ptr (h1).length 0 0) 0)).bind fun x8 =>
    some (x7, x8, x3, h6))
    else (
    (L.asInt .i64 (rd h4 (.ptr (h).length 0 0) 0)).bind fun x9 =>
    (L.asInt .i64 (rd h4 (.ptr (h1).length 0 0) 0)).bind fun x10 =>
    (wr h4 (.ptr (h).length 0 0) [(.int .i64 x9)]).bind fun h11 =>
    (wr h11 (.ptr (h1).length 0 0) [(.int .i64 x10)]).bind fun h12 =>
    (L.asInt .i64 (rd h12 (.ptr (h).length 0 0) 0)).bind fun x13 =>
    (L.asInt .i64 (rd h12 (.ptr (h1).length 0 0) 0)).bind fun x14 =>
    some (x13, x14, 0, h12)))
abbrev ks62 : List SK := [.agg [(.int .i64), (.int .i64), (.cplx .f64), .str, (.int .i64), (.int .i64), .ref]]
abbrev rs62 : List SK := [.one (.int .i64), .one (.int .i64), .one (.int .i64)]
noncomputable def e62 (N : Nat) : Env := ⟨Try.prog, 12, inTab [1], inTab [], natTab [(1, 1)], inTab [], calTab [(68, .full (mkFun ks68 rs68 (F68 N N)))], altTab [], loopTab [], natTab []⟩
theorem fine62 (N : Nat) : Fine (e62 N) N 62 Try.f62 ks62 rs62 (F62 N) :=
  ⟨Try.func62, by kernel_rfl, by kernel_rfl, by kernel_rfl, loops_of trivial, by kernel_rfl, by kernel_rfl, fun _ => by kernel_rfl⟩
theorem good62 (N : Nat) : Go.L.Good (e62 N) := good_of ⟨gd68 N N, trivial⟩
theorem gd62 (N : Nat) : CalOk Try.prog 62 (.full (mkFun ks62 rs62 (F62 N))) := mkFun_good (fine62 N) (good62 N)

/-! ### 43: term.Check -/
noncomputable def F43 (N : Nat) : Int × Int × (Nat × Nat) × ByteArray × Int × Int × V × H → Option (Int × H)
  | (a0_0, a0_1, a0_2, a0_3, a0_4, a0_5, a0_6, h) =>
    (F62 N (a0_0, a0_1, (a0_2.1, a0_2.2), a0_3, a0_4, a0_5, a0_6, h)).bind fun (x1, x2, x3, h4) =>
    some (x3, h4)
abbrev ks43 : List SK := [.agg [(.int .i64), (.int .i64), (.cplx .f64), .str, (.int .i64), (.int .i64), .ref]]
abbrev rs43 : List SK := [.one (.int .i64)]
noncomputable def e43 (N : Nat) : Env := ⟨Try.prog, 13, inTab [1], inTab [], natTab [(1, 1)], inTab [], calTab [(62, .full (mkFun ks62 rs62 (F62 N)))], altTab [], loopTab [], natTab []⟩
theorem fine43 (N : Nat) : Fine (e43 N) N 43 Try.f43 ks43 rs43 (F43 N) :=
  ⟨Try.func43, by kernel_rfl, by kernel_rfl, by kernel_rfl, loops_of trivial, by kernel_rfl, by kernel_rfl, fun _ => by kernel_rfl⟩
theorem good43 (N : Nat) : Go.L.Good (e43 N) := good_of ⟨gd62 N, trivial⟩
theorem gd43 (N : Nat) : CalOk Try.prog 43 (.full (mkFun ks43 rs43 (F43 N))) := mkFun_good (fine43 N) (good43 N)

/-! ### 18: term.both -/
noncomputable def F18 (N : Nat) : Int × Int × (Nat × Nat) × ByteArray × Int × Int × V × Int × Int × (Nat × Nat) × ByteArray × Int × Int × V × H → Option (Int × H)
  | (a0_0, a0_1, a0_2, a0_3, a0_4, a0_5, a0_6, a1_0, a1_1, a1_2, a1_3, a1_4, a1_5, a1_6, h) =>
    (F43 N (a0_0, a0_1, (a0_2.1, a0_2.2), a0_3, a0_4, a0_5, a0_6, h)).bind fun (x1, h2) =>
    (if (x1 != 0) = true then (
    some (x1, h2))
    else (
    (F43 N (a1_0, a1_1, (a1_2.1, a1_2.2), a1_3, a1_4, a1_5, a1_6, h2)).bind fun (x3, h4) =>
    some (x3, h4)))
abbrev ks18 : List SK := [.agg [(.int .i64), (.int .i64), (.cplx .f64), .str, (.int .i64), (.int .i64), .ref], .agg [(.int .i64), (.int .i64), (.cplx .f64), .str, (.int .i64), (.int .i64), .ref]]
abbrev rs18 : List SK := [.one (.int .i64)]
noncomputable def e18 (N : Nat) : Env := ⟨Try.prog, 13, inTab [2, 3], inTab [], natTab [(2, 2), (3, 3)], inTab [], calTab [(43, .full (mkFun ks43 rs43 (F43 N)))], altTab [], loopTab [], natTab []⟩
theorem fine18 (N : Nat) : Fine (e18 N) N 18 Try.f18 ks18 rs18 (F18 N) :=
  ⟨Try.func18, by kernel_rfl, by kernel_rfl, by kernel_rfl, loops_of trivial, by kernel_rfl, by kernel_rfl, fun _ => by kernel_rfl⟩
theorem good18 (N : Nat) : Go.L.Good (e18 N) := good_of ⟨gd43 N, trivial⟩
theorem gd18 (N : Nat) : CalOk Try.prog 18 (.full (mkFun ks18 rs18 (F18 N))) := mkFun_good (fine18 N) (good18 N)

/-! ### 48: term.sign -/
noncomputable def F48 (N : Nat) : Bool × Bool × H → Option (Int × H)
  | (a0, a1, h) =>
    (if a1 = true then (
    some (0, h))
    else (
    (if a0 = true then (
    some ((-1), h))
    else (
    some (1, h)))))
abbrev ks48 : List SK := [.one .bool, .one .bool]
abbrev rs48 : List SK := [.one (.int .i64)]
noncomputable def e48 (N : Nat) : Env := ⟨Try.prog, 9, inTab [], inTab [], natTab [], inTab [], calTab [], altTab [], loopTab [], natTab []⟩
theorem fine48 (N : Nat) : Fine (e48 N) N 48 Try.f48 ks48 rs48 (F48 N) :=
  ⟨Try.func48, by kernel_rfl, by kernel_rfl, by kernel_rfl, loops_of trivial, by kernel_rfl, by kernel_rfl, fun _ => by kernel_rfl⟩
theorem good48 (N : Nat) : Go.L.Good (e48 N) := good_of trivial
theorem gd48 : CalOk Try.prog 48 (.pure (mkP ks48 rs48 (F48 100))) := mkP_good (fine48 100) (good48 100) (by kernel_rfl) (by kernel_rfl)

/-! ### 69: bytealg.abigen_runtime_cmpstring -/
set_option maxRecDepth 100000 in
theorem gd69 : CalOk Try.prog 69 (.ext (mkP [.one .str, .one .str] [.one (.int .i64)] cmpX)) := ext_cmp Try.func69 (by kernel_rfl) (by kernel_rfl) (by kernel_rfl) (by kernel_rfl)

/-! ### 64: bytealg.CompareString -/
noncomputable def F64 (N : Nat) : ByteArray × ByteArray × H → Option (Int × H)
  | (a0, a1, h) =>
    (cmpX (a0, a1, [])).bind fun (x1, _) =>
    some (x1, h)
abbrev ks64 : List SK := [.one .str, .one .str]
abbrev rs64 : List SK := [.one (.int .i64)]
noncomputable def e64 (N : Nat) : Env := ⟨Try.prog, 8, inTab [], inTab [], natTab [], inTab [], calTab [(69, .ext (mkP [.one .str, .one .str] [.one (.int .i64)] cmpX))], altTab [], loopTab [], natTab []⟩
theorem fine64 (N : Nat) : Fine (e64 N) N 64 Try.f64 ks64 rs64 (F64 N) :=
  ⟨Try.func64, by kernel_rfl, by kernel_rfl, by kernel_rfl, loops_of trivial, by kernel_rfl, by kernel_rfl, fun _ => by kernel_rfl⟩
theorem good64 (N : Nat) : Go.L.Good (e64 N) := good_of ⟨gd69, trivial⟩
theorem gd64 : CalOk Try.prog 64 (.pure (mkP ks64 rs64 (F64 100))) := mkP_good (fine64 100) (good64 100) (by kernel_rfl) (by kernel_rfl)

/-! ### 49: strings.Compare -/
noncomputable def F49 (N : Nat) : ByteArray × ByteArray × H → Option (Int × H)
  | (a0, a1, h) =>
    (F64 100 (a0, a1, [])).bind fun (x1, _) =>
    some (x1, h)
abbrev ks49 : List SK := [.one .str, .one .str]
abbrev rs49 : List SK := [.one (.int .i64)]
noncomputable def e49 (N : Nat) : Env := ⟨Try.prog, 8, inTab [], inTab [], natTab [], inTab [], calTab [(64, .pure (mkP ks64 rs64 (F64 100)))], altTab [], loopTab [], natTab []⟩
theorem fine49 (N : Nat) : Fine (e49 N) N 49 Try.f49 ks49 rs49 (F49 N) :=
  ⟨Try.func49, by kernel_rfl, by kernel_rfl, by kernel_rfl, loops_of trivial, by kernel_rfl, by kernel_rfl, fun _ => by kernel_rfl⟩
theorem good49 (N : Nat) : Go.L.Good (e49 N) := good_of ⟨gd64, trivial⟩
theorem gd49 : CalOk Try.prog 49 (.pure (mkP ks49 rs49 (F49 100))) := mkP_good (fine49 100) (good49 100) (by kernel_rfl) (by kernel_rfl)

/-! ### 20: term.order -/
noncomputable def L20_0 (N : Nat) (rec : Int × Int × (Nat × Nat) × ByteArray × Int × Int × V × Int × Int × (Nat × Nat) × ByteArray × Int × Int × V × H → Option (Int × H)) : Nat → Int × Int × Int × (Nat × Nat) × ByteArray × Int × Int × V × Int × Int × (Nat × Nat) × ByteArray × Int × Int × V × H → Option ((Int × Int × (Nat × Nat) × ByteArray × Int × Int × V × Int × Int × (Nat × Nat) × ByteArray × Int × Int × V × H) ⊕ (Int × H))
  | 0, _ => none
  | n + 1, (x62, x63, x64, x65, x66, x67, x68, x69, x70, x71, x72, x73, x74, x75, x76, h77) =>
    (slen x69).bind fun n78 =>
    (if (decide (x62 < n78)) = true then (
    (slen x76).bind fun n81 =>
    some ((decide (x62 < n81)), h77))
    else (
    some (false, h77))).bind fun (b79, h80) =>
    (if b79 = true then (
    (sidx x69 x62 7).bind fun q82 =>
    (L.asInt .i64 (rd h80 q82 0)).bind fun x83 =>
    (L.asInt .i64 (rd h80 q82 1)).bind fun x84 =>
    (L.asCplx .f64 (rd h80 q82 2)).bind fun x85 =>
    (L.asStr (rd h80 q82 3)).bind fun x86 =>
    (L.asInt .i64 (rd h80 q82 4)).bind fun x87 =>
    (L.asInt .i64 (rd h80 q82 5)).bind fun x88 =>
    ((rd h80 q82 6)).bind fun x89 =>
    (sidx x76 x62 7).bind fun q90 =>
    (L.asInt .i64 (rd h80 q90 0)).bind fun x91 =>
    (L.asInt .i64 (rd h80 q90 1)).bind fun x92 =>
    (L.asCplx .f64 (rd h80 q90 2)).bind fun x93 =>
    (L.asStr (rd h80 q90 3)).bind fun x94 =>
    (L.asInt .i64 (rd h80 q90 4)).bind fun x95 =>
    (L.asInt .i64 (rd h80 q90 5)).bind fun x96 =>
    ((rd h80 q90 6)).bind fun x97 =>
    (rec (x83, x84, (x85.1, x85.2), x86, x87, x88, x89, x91, x92, (x93.1, x93.2), x94, x95, x96, x97, h80)).bind fun (x98, _) =>
    (if (x98 != 0) = true then (
    some (.inr (x98, h80)))
    else (
    L20_0 N rec n ((IntKind.i64.wrap (x62 + 1)), x63, x64, (x65.1, x65.2), x66, x67, x68, x69, x70, x71, (x72.1, x72.2), x73, x74, x75, x76, h80))))
    else (
    some (.inl (x63, x64, (x65.1, x65.2), x66, x67, x68, x69, x70, x71, (x72.1, x72.2), x73, x74, x75, x76, h80))))
noncomputable def F20 (N : Nat) : Nat → Int × Int × (Nat × Nat) × ByteArray × Int × Int × V × Int × Int × (Nat × Nat) × ByteArray × Int × Int × V × H → Option (Int × H)
  | 0, _ => none
  | d + 1, (a0_0, a0_1, a0_2, a0_3, a0_4, a0_5, a0_6, a1_0, a1_1, a1_2, a1_3, a1_4, a1_5, a1_6, h) =>
    (if (a0_0 != a1_0) = true then (
    (F48 100 ((decide (a0_0 < a1_0)), false, [])).bind fun (x1, _) =>
    some (x1, h))
    else (
    ((if (a0_0 == 2) = true then (
    some (a0_0, (a0_0 == 2), a0_0, a0_1, (a0_2.1, a0_2.2), a0_3, a0_4, a0_5, a0_6, a1_0, a1_1, (a1_2.1, a1_2.2), a1_3, a1_4, a1_5, a1_6, h))
    else (
    (if (a0_0 == 3) = true then (
    some (a0_0, (a0_0 == 3), a0_0, a0_1, (a0_2.1, a0_2.2), a0_3, a0_4, a0_5, a0_6, a1_0, a1_1, (a1_2.1, a1_2.2), a1_3, a1_4, a1_5, a1_6, h))
    else (
    some (a0_0, (a0_0 == 7), a0_0, a0_1, (a0_2.1, a0_2.2), a0_3, a0_4, a0_5, a0_6, a1_0, a1_1, (a1_2.1, a1_2.2), a1_3, a1_4, a1_5, a1_6, h))))) : Option (Int × Bool × Int × Int × (Nat × Nat) × ByteArray × Int × Int × V × Int × Int × (Nat × Nat) × ByteArray × Int × Int × V × H)).bind fun (x2, x3, x4, x5, x6, x7, x8, x9, x10, x11, x12, x13, x14, x15, x16, x17, h18) =>
    (if x3 = true then (
    (F48 100 ((decide (x5 < x12)), (x5 == x12), [])).bind fun (x19, _) =>
    some (x19, h18))
    else (
    (if (x2 == 4) = true then (
    (if ((FloatKind.f64.format.order x6.1 x13.1) != some .eq) = true then (
    (F48 100 (((FloatKind.f64.format.order x6.1 x13.1) == some .lt), false, [])).bind fun (x20, _) =>
    some (x20, h18))
    else (
    (F48 100 (((FloatKind.f64.format.order x6.2 x13.2) == some .lt), (Op.floatEq .f64 x6.1 x13.1 && Op.floatEq .f64 x6.2 x13.2), [])).bind fun (x21, _) =>
    some (x21, h18))))
    else (
    (if (x2 == 5) = true then (
    (F49 100 (x7, x14, [])).bind fun (x22, _) =>
    some (x22, h18))
    else (
    (if (x2 == 6) = true then (
    (if (x8 != x15) = true then (
    (F48 100 ((decide (x8 < x15)), false, [])).bind fun (x23, _) =>
    some (x23, h18))
    else (
    (F48 100 ((decide (x9 < x16)), ((x8 == x15) && ((x9 == x16) && true)), [])).bind fun (x24, _) =>
    some (x24, h18))))
    else (
    (L20_0 N (F20 N d) N (0, x4, x5, (x6.1, x6.2), x7, x8, x9, x10, x11, x12, (x13.1, x13.2), x14, x15, x16, x17, h18)).bind fun o99 => match o99 with
    | .inl (x100, x101, x102, x103, x104, x105, x106, x107, x108, x109, x110, x111, x112, x113, h114) => (
    (slen x106).bind fun n115 =>
    (slen x113).bind fun n116 =>
    (slen x106).bind fun n117 =>
    (slen x113).bind fun n118 =>
    (F48 100 ((decide (n115 < n116)), (n117 == n118), [])).bind fun (x119, _) =>
    some (x119, h114))
    | .inr (x120, h121) => (
    some (x120, h121))))))))))))
abbrev ks20 : List SK := [.agg [(.int .i64), (.int .i64), (.cplx .f64), .str, (.int .i64), (.int .i64), .ref], .agg [(.int .i64), (.int .i64), (.cplx .f64), .str, (.int .i64), (.int .i64), .ref]]
abbrev rs20 : List SK := [.one (.int .i64)]
noncomputable def e20 (N d : Nat) : Env := ⟨Try.prog, 145, inTab [2, 3], inTab [], natTab [(2, 2), (3, 3), (7, 2), (9, 3), (12, 2), (14, 3), (18, 2), (24, 2), (26, 3), (29, 2), (31, 3), (37, 2), (40, 3), (44, 2), (47, 3), (52, 2), (55, 3), (59, 2), (61, 3), (67, 2), (69, 3), (74, 2), (75, 2), (77, 3), (78, 3), (81, 2), (82, 2), (84, 3), (85, 3), (89, 2), (90, 2), (92, 3), (93, 3), (96, 2), (98, 3), (103, 2), (109, 3), (116, 2), (121, 3), (130, 2), (133, 3), (137, 2), (140, 3)], inTab [], calTab [(48, .pure (mkP ks48 rs48 (F48 100))), (49, .pure (mkP ks49 rs49 (F49 100))), (20, .ro (mkFun ks20 rs20 (F20 N d)))], altTab [(1342177300, [⟨.normal, [2, 3, 19, 20], [.lp 2 0, .lp 3 0, .one (.int .i64), .one .bool], [2, 3], [.cells [(.int .i64), (.int .i64), (.cplx .f64), .str, (.int .i64), (.int .i64), .ref], .cells [(.int .i64), (.int .i64), (.cplx .f64), .str, (.int .i64), (.int .i64), .ref]]⟩])], loopTab [(19, ⟨⟨.normal, [2, 3, 5], [.lp 2 0, .lp 3 0, .one (.int .i64)], [2, 3], [.cells [(.int .i64), (.int .i64), (.cplx .f64), .str, (.int .i64), (.int .i64), .ref], .cells [(.int .i64), (.int .i64), (.cplx .f64), .str, (.int .i64), (.int .i64), .ref]]⟩, [⟨(.exit 1), [2, 3], [.lp 2 0, .lp 3 0], [2, 3], [.cells [(.int .i64), (.int .i64), (.cplx .f64), .str, (.int .i64), (.int .i64), .ref], .cells [(.int .i64), (.int .i64), (.cplx .f64), .str, (.int .i64), (.int .i64), .ref]]⟩, ⟨.ret, [4], [.one (.int .i64)], [], []⟩], L20_0 N (F20 N d)⟩)], natTab []⟩
theorem l20_0 (N d : Nat) : ∀ A, (e20 N d).lp (lid (loopAt Try.f20 0)) = some A → LoopOk (e20 N d) N (loopAt Try.f20 0) A :=
  loopOk_of (A := ⟨⟨.normal, [2, 3, 5], [.lp 2 0, .lp 3 0, .one (.int .i64)], [2, 3], [.cells [(.int .i64), (.int .i64), (.cplx .f64), .str, (.int .i64), (.int .i64), .ref], .cells [(.int .i64), (.int .i64), (.cplx .f64), .str, (.int .i64), (.int .i64), .ref]]⟩, [⟨(.exit 1), [2, 3], [.lp 2 0, .lp 3 0], [2, 3], [.cells [(.int .i64), (.int .i64), (.cplx .f64), .str, (.int .i64), (.int .i64), .ref], .cells [(.int .i64), (.int .i64), (.cplx .f64), .str, (.int .i64), (.int .i64), .ref]]⟩, ⟨.ret, [4], [.one (.int .i64)], [], []⟩], L20_0 N (F20 N d)⟩) (by kernel_rfl) (fun _ => rfl) (fun _ _ => by kernel_rfl)
theorem fine20 (N d : Nat) : Fine (e20 N d) N 20 Try.f20 ks20 rs20 (F20 N (d + 1)) :=
  ⟨Try.func20, by kernel_rfl, by kernel_rfl, by kernel_rfl, loops_of ⟨l20_0 N d, trivial⟩, by kernel_rfl, by kernel_rfl, fun _ => by kernel_rfl⟩
theorem gd20 (N : Nat) : ∀ d, CalOk Try.prog 20 (.ro (mkFun ks20 rs20 (F20 N d)))
  | 0 => fun vs h s he => by obtain ⟨t, _, he⟩ := Option.bind_eq_some_iff.1 he; cases he
  | d + 1 => mkFun_ro (fine20 N d) (good_of ⟨gd48, ⟨gd49, ⟨gd20 N d, trivial⟩⟩⟩) (by kernel_rfl)
theorem good20 (N d : Nat) : Go.L.Good (e20 N d) := good_of ⟨gd48, ⟨gd49, ⟨gd20 N d, trivial⟩⟩⟩

/-! ### 19: term.truth -/
noncomputable def F19 (N : Nat) : Bool × H → Option (Int × Int × (Nat × Nat) × ByteArray × Int × Int × V × H)
  | (a0, h) =>
    ((if a0 = true then (
    some (0, 0, (0, 0), (ByteArray.mk #[]), 0, 0, .nils, 2, 1, (0, 0), (ByteArray.mk #[]), 0, 0, .nils, h))
    else (
    some (0, 0, (0, 0), (ByteArray.mk #[]), 0, 0, .nils, 2, 0, (0, 0), (ByteArray.mk #[]), 0, 0, .nils, h))) : Option (Int × Int × (Nat × Nat) × ByteArray × Int × Int × V × Int × Int × (Nat × Nat) × ByteArray × Int × Int × V × H)).bind fun (x1, x2, x3, x4, x5, x6, x7, x8, x9, x10, x11, x12, x13, x14, h15) =>
    some (x8, x9, (x10.1, x10.2), x11, x12, x13, x14, h15)
abbrev ks19 : List SK := [.one .bool]
abbrev rs19 : List SK := [.agg [(.int .i64), (.int .i64), (.cplx .f64), .str, (.int .i64), (.int .i64), .ref]]
noncomputable def e19 (N : Nat) : Env := ⟨Try.prog, 8, inTab [2, 3], inTab [], natTab [(2, 2), (3, 3), (6, 3)], inTab [], calTab [], altTab [(196613, [⟨.normal, [2, 3], [.lp 2 0, .lp 3 0], [2, 3], [.cells [(.int .i64), (.int .i64), (.cplx .f64), .str, (.int .i64), (.int .i64), .ref], .cells [(.int .i64), (.int .i64), (.cplx .f64), .str, (.int .i64), (.int .i64), .ref]]⟩])], loopTab [], natTab []⟩
theorem fine19 (N : Nat) : Fine (e19 N) N 19 Try.f19 ks19 rs19 (F19 N) :=
  ⟨Try.func19, by kernel_rfl, by kernel_rfl, by kernel_rfl, loops_of trivial, by kernel_rfl, by kernel_rfl, fun _ => by kernel_rfl⟩
theorem good19 (N : Nat) : Go.L.Good (e19 N) := good_of trivial
theorem gd19 (N : Nat) : CalOk Try.prog 19 (.ro (mkFun ks19 rs19 (F19 N))) := mkFun_ro (fine19 N) (good19 N) (by kernel_rfl)

/-! ### 21: term.Make -/
noncomputable def L21_0 (N : Nat) : Nat → Int × V × Int × Int × Int × Int × (Nat × Nat) × ByteArray × Int × Int × V × H → Option ((Int × V × Int × Int × (Nat × Nat) × ByteArray × Int × Int × V × H) ⊕ (Int × Int × Int × (Nat × Nat) × ByteArray × Int × Int × V × H))
  | 0, _ => none
  | n + 1, (x26, x27, x28, x29, x30, x31, x32, x33, x34, x35, x36, h37) =>
    (if (decide (x29 < x28)) = true then (
    (sidx x27 x29 7).bind fun q38 =>
    (L.asInt .i64 (rd h37 q38 0)).bind fun x39 =>
    (L.asInt .i64 (rd h37 q38 1)).bind fun x40 =>
    (L.asCplx .f64 (rd h37 q38 2)).bind fun x41 =>
    (L.asStr (rd h37 q38 3)).bind fun x42 =>
    (L.asInt .i64 (rd h37 q38 4)).bind fun x43 =>
    (L.asInt .i64 (rd h37 q38 5)).bind fun x44 =>
    ((rd h37 q38 6)).bind fun x45 =>
    (F43 N (x39, x40, (x41.1, x41.2), x42, x43, x44, x45, h37)).bind fun (x46, h47) =>
    (if (x46 != 0) = true then (
    some (.inr (x46, 0, 0, (0, 0), (ByteArray.mk #[]), 0, 0, .nils, h47)))
    else (
    L21_0 N n (x26, x27, x28, (IntKind.i64.wrap (x29 + 1)), x30, x31, (x32.1, x32.2), x33, x34, x35, x36, h47))))
    else (
    some (.inl (x26, x27, x30, x31, (x32.1, x32.2), x33, x34, x35, x36, h37))))
noncomputable def F21 (N : Nat) : Int × V × H → Option (Int × Int × (Nat × Nat) × ByteArray × Int × Int × V × Int × H)
  | (a0, a1, h) =>
    (if (a0 != 8) = true then (
    some ((a0 != 9), h))
    else (
    some (false, h))).bind fun (b1, h2) =>
    (if b1 = true then (
    some (0, 0, (0, 0), (ByteArray.mk #[]), 0, 0, .nils, 1, h2))
    else (
    (slen a1).bind fun n3 =>
    (L21_0 N N (a0, a1, n3, 0, 0, 0, (0, 0), (ByteArray.mk #[]), 0, 0, .nils, h2)).bind fun o48 => match o48 with
    | .inl (x49, x50, x51, x52, x53, x54, x55, x56, x57, h58) => (
    (some (h58 ++ [O.cells 0 []]) : Option H).bind fun h59 =>
    (scells h59 x50 7).bind fun cs62 =>
    (happ h59 (.sl (h58).length 0 0 0 7 (some 0)) 7 (snlen x50) cs62).bind fun (v60, h61) =>
    (ck1 v60).bind fun _ =>
    (F43 N (x49, 0, (0, 0), (ByteArray.mk #[]), 0, 0, v60, h61)).bind fun (x63, h64) =>
    (if (x63 != 0) = true then (
    some (0, 0, (0, 0), (ByteArray.mk #[]), 0, 0, .nils, x63, h64))
    else (
    some (x49, 0, (0, 0), (ByteArray.mk #[]), 0, 0, v60, 0, h64))))
    | .inr (x65, x66, x67, x68, x69, x70, x71, x72, h73) => (
    some (x66, x67, (x68.1, x68.2), x69, x70, x71, x72, x65, h73))))
abbrev ks21 : List SK := [.one (.int .i64), .one .ref]
abbrev rs21 : List SK := [.agg [(.int .i64), (.int .i64), (.cplx .f64), .str, (.int .i64), (.int .i64), .ref], .one (.int .i64)]
noncomputable def e21 (N : Nat) : Env := ⟨Try.prog, 44, inTab [4, 8], inTab [], natTab [(4, 4), (8, 8)], inTab [], calTab [(43, .full (mkFun ks43 rs43 (F43 N)))], altTab [], loopTab [(4, ⟨⟨.normal, [0, 1, 4, 18, 19], [.one (.int .i64), .one .ref, .lp 4 0, .one (.int .i64), .one (.int .i64)], [4], [.cells [(.int .i64), (.int .i64), (.cplx .f64), .str, (.int .i64), (.int .i64), .ref]]⟩, [⟨(.exit 0), [0, 1, 4], [.one (.int .i64), .one .ref, .lp 4 0], [4], [.cells [(.int .i64), (.int .i64), (.cplx .f64), .str, (.int .i64), (.int .i64), .ref]]⟩, ⟨.ret, [4, 5], [.lp 4 0, .one (.int .i64)], [4], [.cells [(.int .i64), (.int .i64), (.cplx .f64), .str, (.int .i64), (.int .i64), .ref]]⟩], L21_0 N⟩)], natTab []⟩
theorem l21_0 (N : Nat) : ∀ A, (e21 N).lp (lid (loopAt Try.f21 0)) = some A → LoopOk (e21 N) N (loopAt Try.f21 0) A :=
  loopOk_of (A := ⟨⟨.normal, [0, 1, 4, 18, 19], [.one (.int .i64), .one .ref, .lp 4 0, .one (.int .i64), .one (.int .i64)], [4], [.cells [(.int .i64), (.int .i64), (.cplx .f64), .str, (.int .i64), (.int .i64), .ref]]⟩, [⟨(.exit 0), [0, 1, 4], [.one (.int .i64), .one .ref, .lp 4 0], [4], [.cells [(.int .i64), (.int .i64), (.cplx .f64), .str, (.int .i64), (.int .i64), .ref]]⟩, ⟨.ret, [4, 5], [.lp 4 0, .one (.int .i64)], [4], [.cells [(.int .i64), (.int .i64), (.cplx .f64), .str, (.int .i64), (.int .i64), .ref]]⟩], L21_0 N⟩) (by kernel_rfl) (fun _ => rfl) (fun _ _ => by kernel_rfl)
theorem fine21 (N : Nat) : Fine (e21 N) N 21 Try.f21 ks21 rs21 (F21 N) :=
  ⟨Try.func21, by kernel_rfl, by kernel_rfl, by kernel_rfl, loops_of ⟨l21_0 N, trivial⟩, by kernel_rfl, by kernel_rfl, fun _ => by kernel_rfl⟩
theorem good21 (N : Nat) : Go.L.Good (e21 N) := good_of ⟨gd43 N, trivial⟩
theorem gd21 (N : Nat) : CalOk Try.prog 21 (.full (mkFun ks21 rs21 (F21 N))) := mkFun_good (fine21 N) (good21 N)

/-! ### 22: term.number -/
noncomputable def F22 (N : Nat) : Int × Int × (Nat × Nat) × ByteArray × Int × Int × V × H → Option (Bool × H)
  | (a0_0, a0_1, a0_2, a0_3, a0_4, a0_5, a0_6, h) =>
    (if (a0_0 == 3) = true then (
    some (true, h))
    else (
    some ((a0_0 == 4), h))).bind fun (b1, h2) =>
    some (b1, h2)
abbrev ks22 : List SK := [.agg [(.int .i64), (.int .i64), (.cplx .f64), .str, (.int .i64), (.int .i64), .ref]]
abbrev rs22 : List SK := [.one .bool]
noncomputable def e22 (N : Nat) : Env := ⟨Try.prog, 11, inTab [1], inTab [], natTab [(1, 1), (3, 1), (7, 1)], inTab [], calTab [], altTab [], loopTab [], natTab []⟩
theorem fine22 (N : Nat) : Fine (e22 N) N 22 Try.f22 ks22 rs22 (F22 N) :=
  ⟨Try.func22, by kernel_rfl, by kernel_rfl, by kernel_rfl, loops_of trivial, by kernel_rfl, by kernel_rfl, fun _ => by kernel_rfl⟩
theorem good22 (N : Nat) : Go.L.Good (e22 N) := good_of trivial
theorem gd22 (N : Nat) : CalOk Try.prog 22 (.ro (mkFun ks22 rs22 (F22 N))) := mkFun_ro (fine22 N) (good22 N) (by kernel_rfl)

/-! ### 23: term.num -/
noncomputable def F23 (N : Nat) : Int × H → Option (Int × Int × (Nat × Nat) × ByteArray × Int × Int × V × H)
  | (a0, h) =>
    some (3, a0, (0, 0), (ByteArray.mk #[]), 0, 0, .nils, h)
abbrev ks23 : List SK := [.one (.int .i64)]
abbrev rs23 : List SK := [.agg [(.int .i64), (.int .i64), (.cplx .f64), .str, (.int .i64), (.int .i64), .ref]]
noncomputable def e23 (N : Nat) : Env := ⟨Try.prog, 5, inTab [2], inTab [], natTab [(2, 2)], inTab [], calTab [], altTab [], loopTab [], natTab []⟩
theorem fine23 (N : Nat) : Fine (e23 N) N 23 Try.f23 ks23 rs23 (F23 N) :=
  ⟨Try.func23, by kernel_rfl, by kernel_rfl, by kernel_rfl, loops_of trivial, by kernel_rfl, by kernel_rfl, fun _ => by kernel_rfl⟩
theorem good23 (N : Nat) : Go.L.Good (e23 N) := good_of trivial
theorem gd23 (N : Nat) : CalOk Try.prog 23 (.ro (mkFun ks23 rs23 (F23 N))) := mkFun_ro (fine23 N) (good23 N) (by kernel_rfl)

/-! ### 50: term.parts -/
noncomputable def F50 (N : Nat) : Int × Int × (Nat × Nat) × ByteArray × Int × Int × V × H → Option (Int × Int × Bool × H)
  | (a0_0, a0_1, a0_2, a0_3, a0_4, a0_5, a0_6, h) =>
    (if (a0_0 == 3) = true then (
    (if (decide (a0_1 ≥ (-1073741824))) = true then (
    some ((decide (a0_1 ≤ 1073741824)), h))
    else (
    some (false, h))).bind fun (b1, h2) =>
    some (a0_1, 0, b1, h2))
    else (
    (f2i .f64 a0_2.1 .i64).bind fun x3 =>
    (f2i .f64 a0_2.2 .i64).bind fun x4 =>
    some (x3, x4, true, h)))
abbrev ks50 : List SK := [.agg [(.int .i64), (.int .i64), (.cplx .f64), .str, (.int .i64), (.int .i64), .ref]]
abbrev rs50 : List SK := [.one (.int .i64), .one (.int .i64), .one .bool]
noncomputable def e50 (N : Nat) : Env := ⟨Try.prog, 26, inTab [1], inTab [], natTab [(1, 1), (5, 1), (8, 1), (10, 1), (14, 1), (18, 1), (22, 1)], inTab [], calTab [], altTab [], loopTab [], natTab []⟩
theorem fine50 (N : Nat) : Fine (e50 N) N 50 Try.f50 ks50 rs50 (F50 N) :=
  ⟨Try.func50, by kernel_rfl, by kernel_rfl, by kernel_rfl, loops_of trivial, by kernel_rfl, by kernel_rfl, fun _ => by kernel_rfl⟩
theorem good50 (N : Nat) : Go.L.Good (e50 N) := good_of trivial
theorem gd50 (N : Nat) : CalOk Try.prog 50 (.ro (mkFun ks50 rs50 (F50 N))) := mkFun_ro (fine50 N) (good50 N) (by kernel_rfl)

/-! ### 51: term.made -/
noncomputable def F51 (N : Nat) : Int × Int × H → Option (Int × Int × (Nat × Nat) × ByteArray × Int × Int × V × Int × H)
  | (a0, a1, h) =>
    (if (decide (a0 < (-1073741824))) = true then (
    some (true, h))
    else (
    some ((decide (a0 > 1073741824)), h))).bind fun (b1, h2) =>
    (if b1 = true then (
    some (true, h2))
    else (
    some ((decide (a1 < (-1073741824))), h2))).bind fun (b3, h4) =>
    (if b3 = true then (
    some (true, h4))
    else (
    some ((decide (a1 > 1073741824)), h4))).bind fun (b5, h6) =>
    (if b5 = true then (
    some (0, 0, (0, 0), (ByteArray.mk #[]), 0, 0, .nils, 31, h6))
    else (
    some (4, 0, ((FloatKind.f64.nearest a0), (FloatKind.f64.nearest a1)), (ByteArray.mk #[]), 0, 0, .nils, 0, h6)))
abbrev ks51 : List SK := [.one (.int .i64), .one (.int .i64)]
abbrev rs51 : List SK := [.agg [(.int .i64), (.int .i64), (.cplx .f64), .str, (.int .i64), (.int .i64), .ref], .one (.int .i64)]
noncomputable def e51 (N : Nat) : Env := ⟨Try.prog, 27, inTab [4], inTab [], natTab [(4, 4)], inTab [], calTab [], altTab [], loopTab [], natTab []⟩
theorem fine51 (N : Nat) : Fine (e51 N) N 51 Try.f51 ks51 rs51 (F51 N) :=
  ⟨Try.func51, by kernel_rfl, by kernel_rfl, by kernel_rfl, loops_of trivial, by kernel_rfl, by kernel_rfl, fun _ => by kernel_rfl⟩
theorem good51 (N : Nat) : Go.L.Good (e51 N) := good_of trivial
theorem gd51 (N : Nat) : CalOk Try.prog 51 (.ro (mkFun ks51 rs51 (F51 N))) := mkFun_ro (fine51 N) (good51 N) (by kernel_rfl)

/-! ### 24: term.turn -/
noncomputable def L24_0 (N : Nat) : Nat → Int × Int × Int × Int × Int × (Nat × Nat) × ByteArray × Int × Int × V × H → Option (Int × Int × Int × Int × (Nat × Nat) × ByteArray × Int × Int × V × H)
  | 0, _ => none
  | n + 1, (x15, x16, x17, x18, x19, x20, x21, x22, x23, x24, h25) =>
    (if (decide (x17 > 0)) = true then (
    L24_0 N n ((IntKind.i64.wrap (0 - x16)), x15, (IntKind.i64.wrap (x17 - 1)), x18, x19, (x20.1, x20.2), x21, x22, x23, x24, h25))
    else (
    some (x15, x16, x18, x19, (x20.1, x20.2), x21, x22, x23, x24, h25)))
noncomputable def F24 (N : Nat) : Int × Int × (Nat × Nat) × ByteArray × Int × Int × V × Int × H → Option (Int × Int × (Nat × Nat) × ByteArray × Int × Int × V × Int × H)
  | (a0_0, a0_1, a0_2, a0_3, a0_4, a0_5, a0_6, a1, h) =>
    (F50 N (a0_0, a0_1, (a0_2.1, a0_2.2), a0_3, a0_4, a0_5, a0_6, h)).bind fun (x1, x2, x3, _) =>
    (if (!x3) = true then (
    some (0, 0, (0, 0), (ByteArray.mk #[]), 0, 0, .nils, 31, h))
    else (
    (L24_0 N N (x1, x2, (Int.tmod (IntKind.i64.wrap ((Int.tmod a1 4) + 4)) 4), 0, 0, (0, 0), (ByteArray.mk #[]), 0, 0, .nils, h)).bind fun (x26, x27, x28, x29, x30, x31, x32, x33, x34, h35) =>
    (F51 N (x26, x27, h35)).bind fun (x36, x37, x38, x39, x40, x41, x42, x43, _) =>
    some (x36, x37, (x38.1, x38.2), x39, x40, x41, x42, x43, h35)))
abbrev ks24 : List SK := [.agg [(.int .i64), (.int .i64), (.cplx .f64), .str, (.int .i64), (.int .i64), .ref], .one (.int .i64)]
abbrev rs24 : List SK := [.agg [(.int .i64), (.int .i64), (.cplx .f64), .str, (.int .i64), (.int .i64), .ref], .one (.int .i64)]
noncomputable def e24 (N : Nat) : Env := ⟨Try.prog, 35, inTab [2, 4], inTab [], natTab [(2, 2), (4, 4)], inTab [], calTab [(50, .ro (mkFun ks50 rs50 (F50 N))), (51, .ro (mkFun ks51 rs51 (F51 N)))], altTab [], loopTab [(5, ⟨⟨.normal, [4, 6, 7, 9], [.lp 4 0, .one (.int .i64), .one (.int .i64), .one (.int .i64)], [4], [.cells [(.int .i64), (.int .i64), (.cplx .f64), .str, (.int .i64), (.int .i64), .ref]]⟩, [⟨(.exit 0), [4, 6, 7], [.lp 4 0, .one (.int .i64), .one (.int .i64)], [4], [.cells [(.int .i64), (.int .i64), (.cplx .f64), .str, (.int .i64), (.int .i64), .ref]]⟩], L24_0 N⟩)], natTab []⟩
theorem l24_0 (N : Nat) : ∀ A, (e24 N).lp (lid (loopAt Try.f24 0)) = some A → LoopOk (e24 N) N (loopAt Try.f24 0) A :=
  loopOk_of (A := ⟨⟨.normal, [4, 6, 7, 9], [.lp 4 0, .one (.int .i64), .one (.int .i64), .one (.int .i64)], [4], [.cells [(.int .i64), (.int .i64), (.cplx .f64), .str, (.int .i64), (.int .i64), .ref]]⟩, [⟨(.exit 0), [4, 6, 7], [.lp 4 0, .one (.int .i64), .one (.int .i64)], [4], [.cells [(.int .i64), (.int .i64), (.cplx .f64), .str, (.int .i64), (.int .i64), .ref]]⟩], L24_0 N⟩) (by kernel_rfl) (fun _ => rfl) (fun _ _ => by kernel_rfl)
theorem fine24 (N : Nat) : Fine (e24 N) N 24 Try.f24 ks24 rs24 (F24 N) :=
  ⟨Try.func24, by kernel_rfl, by kernel_rfl, by kernel_rfl, loops_of ⟨l24_0 N, trivial⟩, by kernel_rfl, by kernel_rfl, fun _ => by kernel_rfl⟩
theorem good24 (N : Nat) : Go.L.Good (e24 N) := good_of ⟨gd50 N, ⟨gd51 N, trivial⟩⟩
theorem gd24 (N : Nat) : CalOk Try.prog 24 (.ro (mkFun ks24 rs24 (F24 N))) := mkFun_ro (fine24 N) (good24 N) (by kernel_rfl)

/-! ### 65: bits.Mul64 -/
noncomputable def F65 (N : Nat) : Int × Int × H → Option (Int × Int × H)
  | (a0, a1, h) =>
    some ((IntKind.u64.wrap ((IntKind.u64.wrap ((IntKind.u64.wrap ((Int.fdiv a0 (2 ^ (min (Int.toNat 32) IntKind.u64.bits))) * (Int.fdiv a1 (2 ^ (min (Int.toNat 32) IntKind.u64.bits))))) + (Int.fdiv (IntKind.u64.wrap ((IntKind.u64.wrap ((Int.fdiv a0 (2 ^ (min (Int.toNat 32) IntKind.u64.bits))) * (IntKind.u64.wrap (((BitVec.ofInt IntKind.u64.bits a1) &&& (BitVec.ofInt IntKind.u64.bits 4294967295)).toNat)))) + (Int.fdiv (IntKind.u64.wrap ((IntKind.u64.wrap (((BitVec.ofInt IntKind.u64.bits a0) &&& (BitVec.ofInt IntKind.u64.bits 4294967295)).toNat)) * (IntKind.u64.wrap (((BitVec.ofInt IntKind.u64.bits a1) &&& (BitVec.ofInt IntKind.u64.bits 4294967295)).toNat)))) (2 ^ (min (Int.toNat 32) IntKind.u64.bits))))) (2 ^ (min (Int.toNat 32) IntKind.u64.bits))))) + (Int.fdiv (IntKind.u64.wrap ((IntKind.u64.wrap (((BitVec.ofInt IntKind.u64.bits (IntKind.u64.wrap ((IntKind.u64.wrap ((Int.fdiv a0 (2 ^ (min (Int.toNat 32) IntKind.u64.bits))) * (IntKind.u64.wrap (((BitVec.ofInt IntKind.u64.bits a1) &&& (BitVec.ofInt IntKind.u64.bits 4294967295)).toNat)))) + (Int.fdiv (IntKind.u64.wrap ((IntKind.u64.wrap (((BitVec.ofInt IntKind.u64.bits a0) &&& (BitVec.ofInt IntKind.u64.bits 4294967295)).toNat)) * (IntKind.u64.wrap (((BitVec.ofInt IntKind.u64.bits a1) &&& (BitVec.ofInt IntKind.u64.bits 4294967295)).toNat)))) (2 ^ (min (Int.toNat 32) IntKind.u64.bits)))))) &&& (BitVec.ofInt IntKind.u64.bits 4294967295)).toNat)) + (IntKind.u64.wrap ((IntKind.u64.wrap (((BitVec.ofInt IntKind.u64.bits a0) &&& (BitVec.ofInt IntKind.u64.bits 4294967295)).toNat)) * (Int.fdiv a1 (2 ^ (min (Int.toNat 32) IntKind.u64.bits))))))) (2 ^ (min (Int.toNat 32) IntKind.u64.bits))))), (IntKind.u64.wrap (a0 * a1)), h)
abbrev ks65 : List SK := [.one (.int .u64), .one (.int .u64)]
abbrev rs65 : List SK := [.one (.int .u64), .one (.int .u64)]
noncomputable def e65 (N : Nat) : Env := ⟨Try.prog, 51, inTab [], inTab [], natTab [], inTab [], calTab [], altTab [], loopTab [], natTab []⟩
theorem fine65 (N : Nat) : Fine (e65 N) N 65 Try.f65 ks65 rs65 (F65 N) :=
  ⟨Try.func65, by kernel_rfl, by kernel_rfl, by kernel_rfl, loops_of trivial, by kernel_rfl, by kernel_rfl, fun _ => by kernel_rfl⟩
theorem good65 (N : Nat) : Go.L.Good (e65 N) := good_of trivial
theorem gd65 : CalOk Try.prog 65 (.pure (mkP ks65 rs65 (F65 100))) := mkP_good (fine65 100) (good65 100) (by kernel_rfl) (by kernel_rfl)

/-! ### 52: term.ints -/
noncomputable def F52 (N : Nat) : Int × Int × Int × H → Option (Int × Int × (Nat × Nat) × ByteArray × Int × Int × V × Int × H)
  | (a0, a1, a2, h) =>
    ((if (a0 == 7) = true then (
    some (.inl ((IntKind.i64.wrap (a1 - a2)), 0, 0, (0, 0), (ByteArray.mk #[]), 0, 0, .nils, h)))
    else (
    (if (a0 == 8) = true then (
    (F65 100 ((IntKind.u64.wrap (if (IntKind.i64.wrap (0 - a1)) > a1 then (IntKind.i64.wrap (0 - a1)) else a1)), (IntKind.u64.wrap (if (IntKind.i64.wrap (0 - a2)) > a2 then (IntKind.i64.wrap (0 - a2)) else a2)), [])).bind fun (x1, x2, _) =>
    (if (x1 != 0) = true then (
    some (true, h))
    else (
    some ((decide (x2 > 4611686018427387903)), h))).bind fun (b3, h4) =>
    (if b3 = true then (
    some (.inr (31, 0, 0, (0, 0), (ByteArray.mk #[]), 0, 0, .nils, h4)))
    else (
    some (.inl ((IntKind.i64.wrap (a1 * a2)), 0, 0, (0, 0), (ByteArray.mk #[]), 0, 0, .nils, h4)))))
    else (
    some (.inl ((IntKind.i64.wrap (a1 + a2)), 0, 0, (0, 0), (ByteArray.mk #[]), 0, 0, .nils, h)))))) : Option ((Int × Int × Int × (Nat × Nat) × ByteArray × Int × Int × V × H) ⊕ (Int × Int × Int × (Nat × Nat) × ByteArray × Int × Int × V × H))).bind fun o5 => match o5 with
    | .inl (x6, x7, x8, x9, x10, x11, x12, x13, h14) => (
    (if (decide (x6 < (-4611686018427387903))) = true then (
    some (true, h14))
    else (
    some ((decide (x6 > 4611686018427387903)), h14))).bind fun (b15, h16) =>
    (if b15 = true then (
    some (0, 0, (0, 0), (ByteArray.mk #[]), 0, 0, .nils, 31, h16))
    else (
    (F23 N (x6, h16)).bind fun (x17, x18, x19, x20, x21, x22, x23, _) =>
    some (x17, x18, (x19.1, x19.2), x20, x21, x22, x23, 0, h16))))
    | .inr (x24, x25, x26, x27, x28, x29, x30, x31, h32) => (
    some (x25, x26, (x27.1, x27.2), x28, x29, x30, x31, x24, h32))
abbrev ks52 : List SK := [.one (.int .i64), .one (.int .i64), .one (.int .i64)]
abbrev rs52 : List SK := [.agg [(.int .i64), (.int .i64), (.cplx .f64), .str, (.int .i64), (.int .i64), .ref], .one (.int .i64)]
noncomputable def e52 (N : Nat) : Env := ⟨Try.prog, 55, inTab [6], inTab [], natTab [(6, 6)], inTab [], calTab [(65, .pure (mkP ks65 rs65 (F65 100))), (23, .ro (mkFun ks23 rs23 (F23 N)))], altTab [(1342439439, [⟨.normal, [6, 8], [.lp 6 0, .one (.int .i64)], [6], [.cells [(.int .i64), (.int .i64), (.cplx .f64), .str, (.int .i64), (.int .i64), .ref]]⟩, ⟨.ret, [6, 7], [.lp 6 0, .one (.int .i64)], [6], [.cells [(.int .i64), (.int .i64), (.cplx .f64), .str, (.int .i64), (.int .i64), .ref]]⟩])], loopTab [], natTab []⟩
theorem fine52 (N : Nat) : Fine (e52 N) N 52 Try.f52 ks52 rs52 (F52 N) :=
  ⟨Try.func52, by kernel_rfl, by kernel_rfl, by kernel_rfl, loops_of trivial, by kernel_rfl, by kernel_rfl, fun _ => by kernel_rfl⟩
theorem good52 (N : Nat) : Go.L.Good (e52 N) := good_of ⟨gd65, ⟨gd23 N, trivial⟩⟩
theorem gd52 (N : Nat) : CalOk Try.prog 52 (.ro (mkFun ks52 rs52 (F52 N))) := mkFun_ro (fine52 N) (good52 N) (by kernel_rfl)

/-! ### 25: term.arith -/
noncomputable def F25 (N : Nat) : Int × Int × Int × (Nat × Nat) × ByteArray × Int × Int × V × Int × Int × (Nat × Nat) × ByteArray × Int × Int × V × H → Option (Int × Int × (Nat × Nat) × ByteArray × Int × Int × V × Int × H)
  | (a0, a1_0, a1_1, a1_2, a1_3, a1_4, a1_5, a1_6, a2_0, a2_1, a2_2, a2_3, a2_4, a2_5, a2_6, h) =>
    (if (a1_0 == 3) = true then (
    some ((a2_0 == 3), h))
    else (
    some (false, h))).bind fun (b1, h2) =>
    (if b1 = true then (
    (F52 N (a0, a1_1, a2_1, h2)).bind fun (x3, x4, x5, x6, x7, x8, x9, x10, _) =>
    some (x3, x4, (x5.1, x5.2), x6, x7, x8, x9, x10, h2))
    else (
    (F50 N (a1_0, a1_1, (a1_2.1, a1_2.2), a1_3, a1_4, a1_5, a1_6, h2)).bind fun (x11, x12, x13, _) =>
    (F50 N (a2_0, a2_1, (a2_2.1, a2_2.2), a2_3, a2_4, a2_5, a2_6, h2)).bind fun (x14, x15, x16, _) =>
    (if (!x13) = true then (
    some (true, h2))
    else (
    some ((!x16), h2))).bind fun (b17, h18) =>
    (if b17 = true then (
    some (0, 0, (0, 0), (ByteArray.mk #[]), 0, 0, .nils, 31, h18))
    else (
    (if (a0 == 6) = true then (
    (F51 N ((IntKind.i64.wrap (x11 + x14)), (IntKind.i64.wrap (x12 + x15)), h18)).bind fun (x19, x20, x21, x22, x23, x24, x25, x26, _) =>
    some (x19, x20, (x21.1, x21.2), x22, x23, x24, x25, x26, h18))
    else (
    (if (a0 == 7) = true then (
    (F51 N ((IntKind.i64.wrap (x11 - x14)), (IntKind.i64.wrap (x12 - x15)), h18)).bind fun (x27, x28, x29, x30, x31, x32, x33, x34, _) =>
    some (x27, x28, (x29.1, x29.2), x30, x31, x32, x33, x34, h18))
    else (
    (F51 N ((IntKind.i64.wrap ((IntKind.i64.wrap (x11 * x14)) - (IntKind.i64.wrap (x12 * x15)))), (IntKind.i64.wrap ((IntKind.i64.wrap (x11 * x15)) + (IntKind.i64.wrap (x12 * x14)))), h18)).bind fun (x35, x36, x37, x38, x39, x40, x41, x42, _) =>
    some (x35, x36, (x37.1, x37.2), x38, x39, x40, x41, x42, h18)))))))))
abbrev ks25 : List SK := [.one (.int .i64), .agg [(.int .i64), (.int .i64), (.cplx .f64), .str, (.int .i64), (.int .i64), .ref], .agg [(.int .i64), (.int .i64), (.cplx .f64), .str, (.int .i64), (.int .i64), .ref]]
abbrev rs25 : List SK := [.agg [(.int .i64), (.int .i64), (.cplx .f64), .str, (.int .i64), (.int .i64), .ref], .one (.int .i64)]
noncomputable def e25 (N : Nat) : Env := ⟨Try.prog, 89, inTab [4, 5, 6], inTab [], natTab [(4, 4), (5, 5), (6, 6), (14, 4), (18, 5), (23, 4), (25, 5)], inTab [], calTab [(52, .ro (mkFun ks52 rs52 (F52 N))), (50, .ro (mkFun ks50 rs50 (F50 N))), (51, .ro (mkFun ks51 rs51 (F51 N)))], altTab [], loopTab [], natTab []⟩
theorem fine25 (N : Nat) : Fine (e25 N) N 25 Try.f25 ks25 rs25 (F25 N) :=
  ⟨Try.func25, by kernel_rfl, by kernel_rfl, by kernel_rfl, loops_of trivial, by kernel_rfl, by kernel_rfl, fun _ => by kernel_rfl⟩
theorem good25 (N : Nat) : Go.L.Good (e25 N) := good_of ⟨gd52 N, ⟨gd50 N, ⟨gd51 N, trivial⟩⟩⟩
theorem gd25 (N : Nat) : CalOk Try.prog 25 (.ro (mkFun ks25 rs25 (F25 N))) := mkFun_ro (fine25 N) (good25 N) (by kernel_rfl)

/-! ### 6: term.Binary -/
noncomputable def F6 (N : Nat) : Int × Int × Int × (Nat × Nat) × ByteArray × Int × Int × V × Int × Int × (Nat × Nat) × ByteArray × Int × Int × V × H → Option (Int × Int × (Nat × Nat) × ByteArray × Int × Int × V × Int × H)
  | (a0, a1_0, a1_1, a1_2, a1_3, a1_4, a1_5, a1_6, a2_0, a2_1, a2_2, a2_3, a2_4, a2_5, a2_6, h) =>
    ((if (a0 == 6) = true then (
    some (a0, (a0 == 6), a1_0, a1_1, (a1_2.1, a1_2.2), a1_3, a1_4, a1_5, a1_6, a2_0, a2_1, (a2_2.1, a2_2.2), a2_3, a2_4, a2_5, a2_6, 0, 0, (0, 0), (ByteArray.mk #[]), 0, 0, .nils, h))
    else (
    (if (a0 == 7) = true then (
    some (a0, (a0 == 7), a1_0, a1_1, (a1_2.1, a1_2.2), a1_3, a1_4, a1_5, a1_6, a2_0, a2_1, (a2_2.1, a2_2.2), a2_3, a2_4, a2_5, a2_6, 0, 0, (0, 0), (ByteArray.mk #[]), 0, 0, .nils, h))
    else (
    (if (a0 == 8) = true then (
    some (a0, (a0 == 8), a1_0, a1_1, (a1_2.1, a1_2.2), a1_3, a1_4, a1_5, a1_6, a2_0, a2_1, (a2_2.1, a2_2.2), a2_3, a2_4, a2_5, a2_6, 0, 0, (0, 0), (ByteArray.mk #[]), 0, 0, .nils, h))
    else (
    (if (a0 == 9) = true then (
    some (a0, (a0 == 9), a1_0, a1_1, (a1_2.1, a1_2.2), a1_3, a1_4, a1_5, a1_6, a2_0, a2_1, (a2_2.1, a2_2.2), a2_3, a2_4, a2_5, a2_6, 0, 0, (0, 0), (ByteArray.mk #[]), 0, 0, .nils, h))
    else (
    (if (a0 == 10) = true then (
    some (a0, (a0 == 10), a1_0, a1_1, (a1_2.1, a1_2.2), a1_3, a1_4, a1_5, a1_6, a2_0, a2_1, (a2_2.1, a2_2.2), a2_3, a2_4, a2_5, a2_6, 0, 0, (0, 0), (ByteArray.mk #[]), 0, 0, .nils, h))
    else (
    (if (a0 == 13) = true then (
    some (a0, (a0 == 13), a1_0, a1_1, (a1_2.1, a1_2.2), a1_3, a1_4, a1_5, a1_6, a2_0, a2_1, (a2_2.1, a2_2.2), a2_3, a2_4, a2_5, a2_6, 0, 0, (0, 0), (ByteArray.mk #[]), 0, 0, .nils, h))
    else (
    (if (a0 == 14) = true then (
    some (a0, (a0 == 14), a1_0, a1_1, (a1_2.1, a1_2.2), a1_3, a1_4, a1_5, a1_6, a2_0, a2_1, (a2_2.1, a2_2.2), a2_3, a2_4, a2_5, a2_6, 0, 0, (0, 0), (ByteArray.mk #[]), 0, 0, .nils, h))
    else (
    (if (a0 == 15) = true then (
    some (a0, (a0 == 15), a1_0, a1_1, (a1_2.1, a1_2.2), a1_3, a1_4, a1_5, a1_6, a2_0, a2_1, (a2_2.1, a2_2.2), a2_3, a2_4, a2_5, a2_6, 0, 0, (0, 0), (ByteArray.mk #[]), 0, 0, .nils, h))
    else (
    (if (a0 == 20) = true then (
    some (a0, (a0 == 20), a1_0, a1_1, (a1_2.1, a1_2.2), a1_3, a1_4, a1_5, a1_6, a2_0, a2_1, (a2_2.1, a2_2.2), a2_3, a2_4, a2_5, a2_6, 0, 0, (0, 0), (ByteArray.mk #[]), 0, 0, .nils, h))
    else (
    some (a0, (a0 == 22), a1_0, a1_1, (a1_2.1, a1_2.2), a1_3, a1_4, a1_5, a1_6, a2_0, a2_1, (a2_2.1, a2_2.2), a2_3, a2_4, a2_5, a2_6, 0, 0, (0, 0), (ByteArray.mk #[]), 0, 0, .nils, h))))))))))))))))))) : Option (Int × Bool × Int × Int × (Nat × Nat) × ByteArray × Int × Int × V × Int × Int × (Nat × Nat) × ByteArray × Int × Int × V × Int × Int × (Nat × Nat) × ByteArray × Int × Int × V × H)).bind fun (x1, x2, x3, x4, x5, x6, x7, x8, x9, x10, x11, x12, x13, x14, x15, x16, x17, x18, x19, x20, x21, x22, x23, h24) =>
    (if x2 = true then (
    (F18 N (x3, x4, (x5.1, x5.2), x6, x7, x8, x9, x10, x11, (x12.1, x12.2), x13, x14, x15, x16, h24)).bind fun (x25, h26) =>
    (if (x25 != 0) = true then (
    some (0, 0, (0, 0), (ByteArray.mk #[]), 0, 0, .nils, x25, h26))
    else (
    (if (x1 == 14) = true then (
    (F20 N N (x3, x4, (x5.1, x5.2), x6, x7, x8, x9, x10, x11, (x12.1, x12.2), x13, x14, x15, x16, h26)).bind fun (x27, _) =>
    (F19 N ((x27 == 0), h26)).bind fun (x28, x29, x30, x31, x32, x33, x34, _) =>
    some (x28, x29, (x30.1, x30.2), x31, x32, x33, x34, 0, h26))
    else (
    (if (x1 == 15) = true then (
    (F20 N N (x3, x4, (x5.1, x5.2), x6, x7, x8, x9, x10, x11, (x12.1, x12.2), x13, x14, x15, x16, h26)).bind fun (x35, _) =>
    (F19 N ((decide (x35 < 0)), h26)).bind fun (x36, x37, x38, x39, x40, x41, x42, _) =>
    some (x36, x37, (x38.1, x38.2), x39, x40, x41, x42, 0, h26))
    else (
    (if (x1 == 22) = true then (
    (if (x10 != 9) = true then (
    some (0, 0, (0, 0), (ByteArray.mk #[]), 0, 0, .nils, 32, h26))
    else (
    (some (h26 ++ [O.cells 0 [(.int .i64 x3), (.int .i64 x4), (.cplx .f64 x5.1 x5.2), (.str x6), (.int .i64 x7), (.int .i64 x8), x9]]) : Option H).bind fun h43 =>
    (scells h43 x16 7).bind fun cs46 =>
    (happ h43 (.sl (h26).length 0 0 1 7 (some 1)) 7 (snlen x16) cs46).bind fun (v44, h45) =>
    (F21 N (9, v44, h45)).bind fun (x47, x48, x49, x50, x51, x52, x53, x54, h55) =>
    some (x47, x48, (x49.1, x49.2), x50, x51, x52, x53, x54, h55))))
    else (
    (if (x1 == 20) = true then (
    (if (x3 != 8) = true then (
    some ((x3 != 9), h26))
    else (
    some (false, h26))).bind fun (b56, h57) =>
    (if b56 = true then (
    some (true, h57))
    else (
    some ((x10 != 3), h57))).bind fun (b58, h59) =>
    (if b58 = true then (
    some (0, 0, (0, 0), (ByteArray.mk #[]), 0, 0, .nils, 32, h59))
    else (
    (if (decide (x11 < 0)) = true then (
    some (true, h59))
    else (
    (slen x9).bind fun n62 =>
    some ((decide (x11 ≥ n62)), h59))).bind fun (b60, h61) =>
    (if b60 = true then (
    some (0, 0, (0, 0), (ByteArray.mk #[]), 0, 0, .nils, 31, h61))
    else (
    (sidx x9 x11 7).bind fun q63 =>
    (L.asInt .i64 (rd h61 q63 0)).bind fun x64 =>
    (L.asInt .i64 (rd h61 q63 1)).bind fun x65 =>
    (L.asCplx .f64 (rd h61 q63 2)).bind fun x66 =>
    (L.asStr (rd h61 q63 3)).bind fun x67 =>
    (L.asInt .i64 (rd h61 q63 4)).bind fun x68 =>
    (L.asInt .i64 (rd h61 q63 5)).bind fun x69 =>
    ((rd h61 q63 6)).bind fun x70 =>
    some (x64, x65, (x66.1, x66.2), x67, x68, x69, x70, 0, h61))))))
    else (
    (F22 N (x3, x4, (x5.1, x5.2), x6, x7, x8, x9, h26)).bind fun (x71, _) =>
    (if (!x71) = true then (
    some (true, h26))
    else (
    (F22 N (x10, x11, (x12.1, x12.2), x13, x14, x15, x16, h26)).bind fun (x74, _) =>
    some ((!x74), h26))).bind fun (b72, h73) =>
    (if b72 = true then (
    some (0, 0, (0, 0), (ByteArray.mk #[]), 0, 0, .nils, 32, h73))
    else (
    ((if (x1 == 9) = true then (
    some (x1, x1, (x1 == 9), x3, x4, (x5.1, x5.2), x6, x7, x8, x9, x10, x11, (x12.1, x12.2), x13, x14, x15, x16, x17, x18, (x19.1, x19.2), x20, x21, x22, x23, h73))
    else (
    some (x1, x1, (x1 == 10), x3, x4, (x5.1, x5.2), x6, x7, x8, x9, x10, x11, (x12.1, x12.2), x13, x14, x15, x16, x17, x18, (x19.1, x19.2), x20, x21, x22, x23, h73))) : Option (Int × Int × Bool × Int × Int × (Nat × Nat) × ByteArray × Int × Int × V × Int × Int × (Nat × Nat) × ByteArray × Int × Int × V × Int × Int × (Nat × Nat) × ByteArray × Int × Int × V × H)).bind fun (x75, x76, x77, x78, x79, x80, x81, x82, x83, x84, x85, x86, x87, x88, x89, x90, x91, x92, x93, x94, x95, x96, x97, x98, h99) =>
    (if x77 = true then (
    (if (x78 != 3) = true then (
    some (true, h99))
    else (
    some ((x85 != 3), h99))).bind fun (b100, h101) =>
    (if b100 = true then (
    some (0, 0, (0, 0), (ByteArray.mk #[]), 0, 0, .nils, 32, h101))
    else (
    (if (x86 == 0) = true then (
    some (0, 0, (0, 0), (ByteArray.mk #[]), 0, 0, .nils, 33, h101))
    else (
    (if (x75 == 9) = true then (
    (if x86 = 0 then none else (
    (F23 N ((IntKind.i64.wrap (Int.tdiv x79 x86)), h101)).bind fun (x102, x103, x104, x105, x106, x107, x108, _) =>
    some (x102, x103, (x104.1, x104.2), x105, x106, x107, x108, 0, h101))))
    else (
    (if x86 = 0 then none else (
    (F23 N ((Int.tmod x79 x86), h101)).bind fun (x109, x110, x111, x112, x113, x114, x115, _) =>
    some (x109, x110, (x111.1, x111.2), x112, x113, x114, x115, 0, h101))))))))))
    else (
    (if (x76 == 13) = true then (
    (if (x85 != 3) = true then (
    some (0, 0, (0, 0), (ByteArray.mk #[]), 0, 0, .nils, 32, h99))
    else (
    (F24 N (x78, x79, (x80.1, x80.2), x81, x82, x83, x84, x86, h99)).bind fun (x116, x117, x118, x119, x120, x121, x122, x123, _) =>
    some (x116, x117, (x118.1, x118.2), x119, x120, x121, x122, x123, h99))))
    else (
    (F25 N (x75, x78, x79, (x80.1, x80.2), x81, x82, x83, x84, x85, x86, (x87.1, x87.2), x88, x89, x90, x91, h99)).bind fun (x124, x125, x126, x127, x128, x129, x130, x131, _) =>
    some (x124, x125, (x126.1, x126.2), x127, x128, x129, x130, x131, h99))))))))))))))))))
    else (
    some (0, 0, (0, 0), (ByteArray.mk #[]), 0, 0, .nils, 1, h24)))
abbrev ks6 : List SK := [.one (.int .i64), .agg [(.int .i64), (.int .i64), (.cplx .f64), .str, (.int .i64), (.int .i64), .ref], .agg [(.int .i64), (.int .i64), (.cplx .f64), .str, (.int .i64), (.int .i64), .ref]]
abbrev rs6 : List SK := [.agg [(.int .i64), (.int .i64), (.cplx .f64), .str, (.int .i64), (.int .i64), .ref], .one (.int .i64)]
noncomputable def e6 (N : Nat) : Env := ⟨Try.prog, 150, inTab [4, 5, 6], inTab [], natTab [(4, 4), (5, 5), (6, 6), (46, 5), (52, 5), (60, 4), (64, 4), (69, 5), (74, 5), (78, 5), (80, 4), (86, 4), (88, 5), (105, 4), (109, 5), (114, 5), (120, 4), (122, 5), (126, 4), (128, 5), (134, 5), (139, 5)], inTab [], calTab [(18, .full (mkFun ks18 rs18 (F18 N))), (20, .ro (mkFun ks20 rs20 (F20 N N))), (19, .ro (mkFun ks19 rs19 (F19 N))), (21, .full (mkFun ks21 rs21 (F21 N))), (22, .ro (mkFun ks22 rs22 (F22 N))), (23, .ro (mkFun ks23 rs23 (F23 N))), (24, .ro (mkFun ks24 rs24 (F24 N))), (25, .ro (mkFun ks25 rs25 (F25 N)))], altTab [(1073741835, [⟨.normal, [0, 4, 5, 6, 11], [.one (.int .i64), .lp 4 0, .lp 5 0, .lp 6 0, .one .bool], [4, 5, 6], [.cells [(.int .i64), (.int .i64), (.cplx .f64), .str, (.int .i64), (.int .i64), .ref], .cells [(.int .i64), (.int .i64), (.cplx .f64), .str, (.int .i64), (.int .i64), .ref], .cells [(.int .i64), (.int .i64), (.cplx .f64), .str, (.int .i64), (.int .i64), .ref]]⟩]), (9395241062, [⟨.normal, [0, 4, 5, 6, 101, 102], [.one (.int .i64), .lp 4 0, .lp 5 0, .lp 6 0, .one (.int .i64), .one .bool], [4, 5, 6], [.cells [(.int .i64), (.int .i64), (.cplx .f64), .str, (.int .i64), (.int .i64), .ref], .cells [(.int .i64), (.int .i64), (.cplx .f64), .str, (.int .i64), (.int .i64), .ref], .cells [(.int .i64), (.int .i64), (.cplx .f64), .str, (.int .i64), (.int .i64), .ref]]⟩])], loopTab [], natTab []⟩
theorem fine6 (N : Nat) : Fine (e6 N) N 6 Try.f6 ks6 rs6 (F6 N) :=
  ⟨Try.func6, by kernel_rfl, by kernel_rfl, by kernel_rfl, loops_of trivial, by kernel_rfl, by kernel_rfl, fun _ => by kernel_rfl⟩
theorem good6 (N : Nat) : Go.L.Good (e6 N) := good_of ⟨gd18 N, ⟨gd20 N N, ⟨gd19 N, ⟨gd21 N, ⟨gd22 N, ⟨gd23 N, ⟨gd24 N, ⟨gd25 N, trivial⟩⟩⟩⟩⟩⟩⟩⟩
theorem gd6 (N : Nat) : CalOk Try.prog 6 (.full (mkFun ks6 rs6 (F6 N))) := mkFun_good (fine6 N) (good6 N)

/-! ### 26: carouselref03.IsBinary -/
noncomputable def F26 (N : Nat) : Int × H → Option (Bool × H)
  | (a0, h) =>
    (if (decide (a0 ≥ 6)) = true then (
    some ((decide (a0 ≤ 10)), h))
    else (
    some (false, h))).bind fun (b1, h2) =>
    (if b1 = true then (
    some (true, h2))
    else (
    some ((a0 == 13), h2))).bind fun (b3, h4) =>
    (if b3 = true then (
    some (true, h4))
    else (
    some ((a0 == 14), h4))).bind fun (b5, h6) =>
    (if b5 = true then (
    some (true, h6))
    else (
    some ((a0 == 15), h6))).bind fun (b7, h8) =>
    (if b7 = true then (
    some (true, h8))
    else (
    some ((a0 == 20), h8))).bind fun (b9, h10) =>
    (if b9 = true then (
    some (true, h10))
    else (
    some ((a0 == 22), h10))).bind fun (b11, h12) =>
    some (b11, h12)
abbrev ks26 : List SK := [.one (.int .i64)]
abbrev rs26 : List SK := [.one .bool]
noncomputable def e26 (N : Nat) : Env := ⟨Try.prog, 29, inTab [], inTab [], natTab [], inTab [], calTab [], altTab [], loopTab [], natTab []⟩
theorem fine26 (N : Nat) : Fine (e26 N) N 26 Try.f26 ks26 rs26 (F26 N) :=
  ⟨Try.func26, by kernel_rfl, by kernel_rfl, by kernel_rfl, loops_of trivial, by kernel_rfl, by kernel_rfl, fun _ => by kernel_rfl⟩
theorem good26 (N : Nat) : Go.L.Good (e26 N) := good_of trivial
theorem gd26 : CalOk Try.prog 26 (.pure (mkP ks26 rs26 (F26 100))) := mkP_good (fine26 100) (good26 100) (by kernel_rfl) (by kernel_rfl)

/-! ### 70: carouselref03.whole -/
noncomputable def F70 (N : Nat) : Nat × H → Option (Bool × H)
  | (a0, h) =>
    (if ((FloatKind.f64.format.order a0 13965662444475908096) == some .gt || (FloatKind.f64.format.order a0 13965662444475908096) == some .eq) = true then (
    some (((FloatKind.f64.format.order a0 4742290407621132288) == some .lt || (FloatKind.f64.format.order a0 4742290407621132288) == some .eq), h))
    else (
    some (false, h))).bind fun (b1, h2) =>
    (if (!b1) = true then (
    some (false, h2))
    else (
    (f2i .f64 a0 .i64).bind fun x3 =>
    (if ((FloatKind.f64.format.order (FloatKind.f64.nearest x3) a0) == some .eq) = true then (
    (if ((FloatKind.f64.format.order a0 0) != some .eq) = true then (
    some (true, h2))
    else (
    (FloatKind.f64.format.div 4607182418800017408 a0).bind fun x8 =>
    some (((FloatKind.f64.format.order x8 0) == some .gt), h2))).bind fun (b6, h7) =>
    some (b6, h7))
    else (
    some (false, h2))).bind fun (b4, h5) =>
    some (b4, h5)))
abbrev ks70 : List SK := [.one (.float .f64)]
abbrev rs70 : List SK := [.one .bool]
noncomputable def e70 (N : Nat) : Env := ⟨Try.prog, 24, inTab [], inTab [], natTab [], inTab [], calTab [], altTab [], loopTab [], natTab []⟩
theorem fine70 (N : Nat) : Fine (e70 N) N 70 Try.f70 ks70 rs70 (F70 N) :=
  ⟨Try.func70, by kernel_rfl, by kernel_rfl, by kernel_rfl, loops_of trivial, by kernel_rfl, by kernel_rfl, fun _ => by kernel_rfl⟩
theorem good70 (N : Nat) : Go.L.Good (e70 N) := good_of trivial
theorem gd70 : CalOk Try.prog 70 (.pure (mkP ks70 rs70 (F70 100))) := mkP_good (fine70 100) (good70 100) (by kernel_rfl) (by kernel_rfl)

/-! ### 77: carouselref03.lower -/
noncomputable def F77 (N : Nat) : Int × H → Option (Bool × H)
  | (a0, h) =>
    (if (decide (a0 ≥ 97)) = true then (
    some ((decide (a0 ≤ 122)), h))
    else (
    some (false, h))).bind fun (b1, h2) =>
    some (b1, h2)
abbrev ks77 : List SK := [.one (.int .u8)]
abbrev rs77 : List SK := [.one .bool]
noncomputable def e77 (N : Nat) : Env := ⟨Try.prog, 9, inTab [], inTab [], natTab [], inTab [], calTab [], altTab [], loopTab [], natTab []⟩
theorem fine77 (N : Nat) : Fine (e77 N) N 77 Try.f77 ks77 rs77 (F77 N) :=
  ⟨Try.func77, by kernel_rfl, by kernel_rfl, by kernel_rfl, loops_of trivial, by kernel_rfl, by kernel_rfl, fun _ => by kernel_rfl⟩
theorem good77 (N : Nat) : Go.L.Good (e77 N) := good_of trivial
theorem gd77 : CalOk Try.prog 77 (.pure (mkP ks77 rs77 (F77 100))) := mkP_good (fine77 100) (good77 100) (by kernel_rfl) (by kernel_rfl)

/-! ### 71: carouselref03.Atom -/
noncomputable def L71_0 (N : Nat) : Nat → ByteArray × Int × H → Option ((H) ⊕ (Bool × H))
  | 0, _ => none
  | n + 1, (x28, x29, h30) =>
    (if (decide (x29 < ((x28).size : Int))) = true then (
    (if 0 ≤ x29 then (x28[Int.toNat x29]?.bind fun c31 =>
    (F77 100 (((UInt8.toNat c31 : Nat) : Int), [])).bind fun (x32, _) =>
    (if (!x32) = true then (
    (if (decide (((UInt8.toNat c31 : Nat) : Int) ≥ 65)) = true then (
    some ((decide (((UInt8.toNat c31 : Nat) : Int) ≤ 90)), h30))
    else (
    some (false, h30))).bind fun (b35, h36) =>
    some ((!b35), h36))
    else (
    some (false, h30))).bind fun (b33, h34) =>
    (if b33 = true then (
    (if (decide (((UInt8.toNat c31 : Nat) : Int) ≥ 48)) = true then (
    some ((decide (((UInt8.toNat c31 : Nat) : Int) ≤ 57)), h34))
    else (
    some (false, h34))).bind fun (b39, h40) =>
    some ((!b39), h40))
    else (
    some (false, h34))).bind fun (b37, h38) =>
    (if b37 = true then (
    some ((((UInt8.toNat c31 : Nat) : Int) != 95), h38))
    else (
    some (false, h38))).bind fun (b41, h42) =>
    (if b41 = true then (
    some (.inr (false, h42)))
    else (
    L71_0 N n (x28, (IntKind.i64.wrap (x29 + 1)), h42)))) else none))
    else (
    some (.inl h30)))
noncomputable def F71 (N : Nat) : ByteArray × H → Option (Bool × H)
  | (a0, h) =>
    (if (decide (((a0).size : Int) < 1)) = true then (
    some (true, h))
    else (
    some ((decide (((a0).size : Int) > 64)), h))).bind fun (b1, h2) =>
    (if b1 = true then (
    some (true, h2))
    else (
    (if 0 ≤ 0 then (a0[Int.toNat 0]?.bind fun c5 =>
    (F77 100 (((UInt8.toNat c5 : Nat) : Int), [])).bind fun (x6, _) =>
    some ((!x6), h2)) else none))).bind fun (b3, h4) =>
    (if b3 = true then (
    some (true, h4))
    else (
    some (((a0).toList == ((ByteArray.mk #[110, 105, 108])).toList), h4))).bind fun (b7, h8) =>
    (if b7 = true then (
    some (true, h8))
    else (
    some (((a0).toList == ((ByteArray.mk #[116, 114, 117, 101])).toList), h8))).bind fun (b9, h10) =>
    (if b9 = true then (
    some (true, h10))
    else (
    some (((a0).toList == ((ByteArray.mk #[102, 97, 108, 115, 101])).toList), h10))).bind fun (b11, h12) =>
    (if b11 = true then (
    some (false, h12))
    else (
    (L71_0 N N (a0, 0, h12)).bind fun o43 => match o43 with
    | .inl h44 => (
    some (true, h44))
    | .inr (x45, h46) => (
    some (x45, h46))))
abbrev ks71 : List SK := [.one .str]
abbrev rs71 : List SK := [.one .bool]
noncomputable def e71 (N : Nat) : Env := ⟨Try.prog, 65, inTab [], inTab [], natTab [], inTab [], calTab [(77, .pure (mkP ks77 rs77 (F77 100)))], altTab [], loopTab [(4, ⟨⟨.normal, [0, 3], [.one .str, .one (.int .i64)], [], []⟩, [⟨(.exit 0), [], [], [], []⟩, ⟨.ret, [2], [.one .bool], [], []⟩], L71_0 N⟩)], natTab []⟩
theorem l71_0 (N : Nat) : ∀ A, (e71 N).lp (lid (loopAt Try.f71 0)) = some A → LoopOk (e71 N) N (loopAt Try.f71 0) A :=
  loopOk_of (A := ⟨⟨.normal, [0, 3], [.one .str, .one (.int .i64)], [], []⟩, [⟨(.exit 0), [], [], [], []⟩, ⟨.ret, [2], [.one .bool], [], []⟩], L71_0 N⟩) (by kernel_rfl) (fun _ => rfl) (fun _ _ => by kernel_rfl)
theorem fine71 (N : Nat) : Fine (e71 N) N 71 Try.f71 ks71 rs71 (F71 N) :=
  ⟨Try.func71, by kernel_rfl, by kernel_rfl, by kernel_rfl, loops_of ⟨l71_0 N, trivial⟩, by kernel_rfl, by kernel_rfl, fun _ => by kernel_rfl⟩
theorem good71 (N : Nat) : Go.L.Good (e71 N) := good_of ⟨gd77, trivial⟩
theorem gd71 : CalOk Try.prog 71 (.pure (mkP ks71 rs71 (F71 100))) := mkP_good (fine71 100) (good71 100) (by kernel_rfl) (by kernel_rfl)

/-! ### 72: carouselref03.Pid -/
noncomputable def F72 (N : Nat) : Int × Int × H → Option (Bool × H)
  | (a0_0, a0_1, h) =>
    (if (decide (a0_0 ≥ 0)) = true then (
    some ((decide (a0_0 < 256)), h))
    else (
    some (false, h))).bind fun (b1, h2) =>
    (if b1 = true then (
    some ((decide (a0_1 ≥ 1)), h2))
    else (
    some (false, h2))).bind fun (b3, h4) =>
    (if b3 = true then (
    some ((decide (a0_1 ≤ 4611686018427387903)), h4))
    else (
    some (false, h4))).bind fun (b5, h6) =>
    some (b5, h6)
abbrev ks72 : List SK := [.agg [(.int .i64), (.int .i64)]]
abbrev rs72 : List SK := [.one .bool]
noncomputable def e72 (N : Nat) : Env := ⟨Try.prog, 21, inTab [1], inTab [], natTab [(1, 1), (3, 1), (7, 1), (12, 1), (17, 1)], inTab [], calTab [], altTab [], loopTab [], natTab []⟩
theorem fine72 (N : Nat) : Fine (e72 N) N 72 Try.f72 ks72 rs72 (F72 N) :=
  ⟨Try.func72, by kernel_rfl, by kernel_rfl, by kernel_rfl, loops_of trivial, by kernel_rfl, by kernel_rfl, fun _ => by kernel_rfl⟩
theorem good72 (N : Nat) : Go.L.Good (e72 N) := good_of trivial
theorem gd72 : CalOk Try.prog 72 (.pure (mkP ks72 rs72 (F72 100))) := mkP_good (fine72 100) (good72 100) (by kernel_rfl) (by kernel_rfl)

/-! ### 73: carouselref03.zero -/
noncomputable def F73 (N : Nat) : (Nat × Nat) × H → Option (Bool × H)
  | (a0, h) =>
    some ((Op.floatEq .f64 a0.1 0 && Op.floatEq .f64 a0.2 0), h)
abbrev ks73 : List SK := [.one (.cplx .f64)]
abbrev rs73 : List SK := [.one .bool]
noncomputable def e73 (N : Nat) : Env := ⟨Try.prog, 5, inTab [], inTab [], natTab [], inTab [], calTab [], altTab [], loopTab [], natTab []⟩
theorem fine73 (N : Nat) : Fine (e73 N) N 73 Try.f73 ks73 rs73 (F73 N) :=
  ⟨Try.func73, by kernel_rfl, by kernel_rfl, by kernel_rfl, loops_of trivial, by kernel_rfl, by kernel_rfl, fun _ => by kernel_rfl⟩
theorem good73 (N : Nat) : Go.L.Good (e73 N) := good_of trivial
theorem gd73 : CalOk Try.prog 73 (.pure (mkP ks73 rs73 (F73 100))) := mkP_good (fine73 100) (good73 100) (by kernel_rfl) (by kernel_rfl)

/-! ### 66: carouselref03.one -/
noncomputable def F66 (N : Nat) : Int × Int × (Nat × Nat) × ByteArray × Int × Int × V × H → Option (Bool × H)
  | (a0_0, a0_1, a0_2, a0_3, a0_4, a0_5, a0_6, h) =>
    ((if (a0_0 == 1) = true then (
    some (.inl (true, a0_0, a0_1, (a0_2.1, a0_2.2), a0_3, a0_4, a0_5, a0_6, a0_0, 0, (0, 0), (ByteArray.mk #[]), 0, 0, .nils, h)))
    else (
    (if (a0_0 == 2) = true then (
    (if (a0_1 == 0) = true then (
    some (true, h))
    else (
    some ((a0_1 == 1), h))).bind fun (b1, h2) =>
    some (.inl (b1, a0_0, a0_1, (a0_2.1, a0_2.2), a0_3, a0_4, a0_5, a0_6, a0_0, a0_1, (0, 0), (ByteArray.mk #[]), 0, 0, .nils, h2)))
    else (
    (if (a0_0 == 3) = true then (
    (if (decide (a0_1 ≥ (-4611686018427387903))) = true then (
    some ((decide (a0_1 ≤ 4611686018427387903)), h))
    else (
    some (false, h))).bind fun (b3, h4) =>
    some (.inl (b3, a0_0, a0_1, (a0_2.1, a0_2.2), a0_3, a0_4, a0_5, a0_6, a0_0, a0_1, (0, 0), (ByteArray.mk #[]), 0, 0, .nils, h4)))
    else (
    (if (a0_0 == 7) = true then (
    (if (decide (a0_1 ≥ 1)) = true then (
    some ((decide (a0_1 ≤ 4611686018427387903)), h))
    else (
    some (false, h))).bind fun (b5, h6) =>
    some (.inl (b5, a0_0, a0_1, (a0_2.1, a0_2.2), a0_3, a0_4, a0_5, a0_6, a0_0, a0_1, (0, 0), (ByteArray.mk #[]), 0, 0, .nils, h6)))
    else (
    (if (a0_0 == 4) = true then (
    (F70 100 (a0_2.1, [])).bind fun (x7, _) =>
    (if x7 = true then (
    (F70 100 (a0_2.2, [])).bind fun (x10, _) =>
    some (x10, h))
    else (
    some (false, h))).bind fun (b8, h9) =>
    some (.inl (b8, a0_0, a0_1, (a0_2.1, a0_2.2), a0_3, a0_4, a0_5, a0_6, a0_0, 0, (a0_2.1, a0_2.2), (ByteArray.mk #[]), 0, 0, .nils, h9)))
    else (
    (if (a0_0 == 5) = true then (
    (F71 100 (a0_3, [])).bind fun (x11, _) =>
    some (.inl (x11, a0_0, a0_1, (a0_2.1, a0_2.2), a0_3, a0_4, a0_5, a0_6, a0_0, 0, (0, 0), a0_3, 0, 0, .nils, h)))
    else (
    (if (a0_0 == 6) = true then (
    (F72 100 (a0_4, a0_5, [])).bind fun (x12, _) =>
    some (.inl (x12, a0_0, a0_1, (a0_2.1, a0_2.2), a0_3, a0_4, a0_5, a0_6, a0_0, 0, (0, 0), (ByteArray.mk #[]), a0_4, a0_5, .nils, h)))
    else (
    ((if (a0_0 == 8) = true then (
    some ((a0_0 == 8), a0_0, a0_1, (a0_2.1, a0_2.2), a0_3, a0_4, a0_5, a0_6, a0_0, 0, (0, 0), (ByteArray.mk #[]), 0, 0, .nils, h))
    else (
    some ((a0_0 == 9), a0_0, a0_1, (a0_2.1, a0_2.2), a0_3, a0_4, a0_5, a0_6, a0_0, 0, (0, 0), (ByteArray.mk #[]), 0, 0, .nils, h))) : Option (Bool × Int × Int × (Nat × Nat) × ByteArray × Int × Int × V × Int × Int × (Nat × Nat) × ByteArray × Int × Int × V × H)).bind fun (x13, x14, x15, x16, x17, x18, x19, x20, x21, x22, x23, x24, x25, x26, x27, h28) =>
    (if x13 = true then (
    (if (x15 == 0) = true then (
    some (((x17).toList == ((ByteArray.mk #[])).toList), h28))
    else (
    some (false, h28))).bind fun (b29, h30) =>
    (if b29 = true then (
    some (((x18 == x25) && ((x19 == x26) && true)), h30))
    else (
    some (false, h30))).bind fun (b31, h32) =>
    (if b31 = true then (
    (F73 100 ((x16.1, x16.2), [])).bind fun (x35, _) =>
    some (x35, h32))
    else (
    some (false, h32))).bind fun (b33, h34) =>
    some (.inr (b33, h34)))
    else (
    some (.inr (false, h28)))))))))))))))))) : Option ((Bool × Int × Int × (Nat × Nat) × ByteArray × Int × Int × V × Int × Int × (Nat × Nat) × ByteArray × Int × Int × V × H) ⊕ (Bool × H))).bind fun o36 => match o36 with
    | .inl (x37, x38, x39, x40, x41, x42, x43, x44, x45, x46, x47, x48, x49, x50, x51, h52) => (
    (if x37 = true then (
    (slen x44).bind fun n55 =>
    some ((n55 == 0), h52))
    else (
    some (false, h52))).bind fun (b53, h54) =>
    (if b53 = true then (
    some ((x39 == x46), h54))
    else (
    some (false, h54))).bind fun (b56, h57) =>
    (if b56 = true then (
    some (((x41).toList == (x48).toList), h57))
    else (
    some (false, h57))).bind fun (b58, h59) =>
    (if b58 = true then (
    some (((x42 == x49) && ((x43 == x50) && true)), h59))
    else (
    some (false, h59))).bind fun (b60, h61) =>
    (if b60 = true then (
    (if (x38 == 4) = true then (
    some (true, h61))
    else (
    (F73 100 ((x40.1, x40.2), [])).bind fun (x66, _) =>
    some (x66, h61))).bind fun (b64, h65) =>
    some (b64, h65))
    else (
    some (false, h61))).bind fun (b62, h63) =>
    some (b62, h63))
    | .inr (x67, h68) => (
    some (x67, h68))
abbrev ks66 : List SK := [.agg [(.int .i64), (.int .i64), (.cplx .f64), .str, (.int .i64), (.int .i64), .ref]]
abbrev rs66 : List SK := [.one .bool]
noncomputable def e66 (N : Nat) : Env := ⟨Try.prog, 143, inTab [1, 3], inTab [], natTab [(1, 1), (3, 3), (5, 1), (8, 1), (14, 1), (16, 3), (17, 1), (21, 1), (27, 1), (29, 3), (30, 1), (34, 1), (40, 1), (42, 3), (43, 1), (47, 1), (53, 1), (55, 3), (56, 1), (61, 1), (68, 1), (70, 3), (71, 1), (76, 1), (78, 3), (79, 1), (85, 1), (89, 1), (94, 1), (96, 3), (101, 1), (107, 1), (113, 1), (115, 3), (120, 1), (122, 3), (127, 1), (129, 3), (134, 1), (138, 1)], inTab [], calTab [(70, .pure (mkP ks70 rs70 (F70 100))), (71, .pure (mkP ks71 rs71 (F71 100))), (72, .pure (mkP ks72 rs72 (F72 100))), (73, .pure (mkP ks73 rs73 (F73 100)))], altTab [(1610612746, [⟨.normal, [1, 3, 4], [.lp 1 0, .lp 3 0, .one .bool], [1, 3], [.cells [(.int .i64), (.int .i64), (.cplx .f64), .str, (.int .i64), (.int .i64), .ref], .cells [(.int .i64), (.int .i64), (.cplx .f64), .str, (.int .i64), (.int .i64), .ref]]⟩, ⟨.ret, [2], [.one .bool], [], []⟩]), (6710886482, [⟨.normal, [1, 3, 82], [.lp 1 0, .lp 3 0, .one .bool], [1, 3], [.cells [(.int .i64), (.int .i64), (.cplx .f64), .str, (.int .i64), (.int .i64), .ref], .cells [(.int .i64), (.int .i64), (.cplx .f64), .str, (.int .i64), (.int .i64), .ref]]⟩])], loopTab [], natTab []⟩
theorem fine66 (N : Nat) : Fine (e66 N) N 66 Try.f66 ks66 rs66 (F66 N) :=
  ⟨Try.func66, by kernel_rfl, by kernel_rfl, by kernel_rfl, loops_of trivial, by kernel_rfl, by kernel_rfl, fun _ => by kernel_rfl⟩
theorem good66 (N : Nat) : Go.L.Good (e66 N) := good_of ⟨gd70, ⟨gd71, ⟨gd72, ⟨gd73, trivial⟩⟩⟩⟩
theorem gd66 (N : Nat) : CalOk Try.prog 66 (.ro (mkFun ks66 rs66 (F66 N))) := mkFun_ro (fine66 N) (good66 N) (by kernel_rfl)

/-! ### 53: carouselref03.walk -/
noncomputable def L53_0 (N : Nat) (rec : Int × Int × (Nat × Nat) × ByteArray × Int × Int × V × Int × Int × H → Option (Int × Int × H)) : Nat → Int × Int × Int × Int × Int × (Nat × Nat) × ByteArray × Int × Int × V × H → Option ((Int × H) ⊕ (Int × Int × H))
  | 0, _ => none
  | n + 1, (x26, x27, x28, x29, x30, x31, x32, x33, x34, x35, h36) =>
    (slen x35).bind fun n37 =>
    (if (decide (x28 < n37)) = true then (
    (sidx x35 x28 7).bind fun q38 =>
    (L.asInt .i64 (rd h36 q38 0)).bind fun x39 =>
    (L.asInt .i64 (rd h36 q38 1)).bind fun x40 =>
    (L.asCplx .f64 (rd h36 q38 2)).bind fun x41 =>
    (L.asStr (rd h36 q38 3)).bind fun x42 =>
    (L.asInt .i64 (rd h36 q38 4)).bind fun x43 =>
    (L.asInt .i64 (rd h36 q38 5)).bind fun x44 =>
    ((rd h36 q38 6)).bind fun x45 =>
    (rec (x39, x40, (x41.1, x41.2), x42, x43, x44, x45, x26, (IntKind.i64.wrap (x27 + 1)), h36)).bind fun (x46, x47, _) =>
    (if (x47 != 0) = true then (
    some (.inr (x46, x47, h36)))
    else (
    L53_0 N rec n (x46, x27, (IntKind.i64.wrap (x28 + 1)), x29, x30, (x31.1, x31.2), x32, x33, x34, x35, h36))))
    else (
    some (.inl (x26, h36))))
noncomputable def F53 (N : Nat) : Nat → Int × Int × (Nat × Nat) × ByteArray × Int × Int × V × Int × Int × H → Option (Int × Int × H)
  | 0, _ => none
  | d + 1, (a0_0, a0_1, a0_2, a0_3, a0_4, a0_5, a0_6, a1, a2, h) =>
    (if (decide (a1 ≥ 1024)) = true then (
    some (true, h))
    else (
    some ((decide (a2 ≥ 64)), h))).bind fun (b1, h2) =>
    (if b1 = true then (
    some (a1, 34, h2))
    else (
    (F66 N (a0_0, a0_1, (a0_2.1, a0_2.2), a0_3, a0_4, a0_5, a0_6, h2)).bind fun (x3, _) =>
    (if (!x3) = true then (
    some (a1, 30, h2))
    else (
    (L53_0 N (F53 N d) N ((IntKind.i64.wrap (a1 + 1)), a2, 0, a0_0, a0_1, (a0_2.1, a0_2.2), a0_3, a0_4, a0_5, a0_6, h2)).bind fun o48 => match o48 with
    | .inl (x49, h50) => (
    some (x49, 0, h50))
    | .inr (x51, x52, h53) => (
    some (x51, x52, h53))))))
abbrev ks53 : List SK := [.agg [(.int .i64), (.int .i64), (.cplx .f64), .str, (.int .i64), (.int .i64), .ref], .one (.int .i64), .one (.int .i64)]
abbrev rs53 : List SK := [.one (.int .i64), .one (.int .i64)]
noncomputable def e53 (N d : Nat) : Env := ⟨Try.prog, 49, inTab [3], inTab [], natTab [(3, 3), (25, 3), (32, 3)], inTab [], calTab [(66, .ro (mkFun ks66 rs66 (F66 N))), (53, .ro (mkFun ks53 rs53 (F53 N d)))], altTab [], loopTab [(7, ⟨⟨.normal, [1, 2, 3, 8], [.one (.int .i64), .one (.int .i64), .lp 3 0, .one (.int .i64)], [3], [.cells [(.int .i64), (.int .i64), (.cplx .f64), .str, (.int .i64), (.int .i64), .ref]]⟩, [⟨(.exit 0), [1], [.one (.int .i64)], [], []⟩, ⟨.ret, [6, 7], [.one (.int .i64), .one (.int .i64)], [], []⟩], L53_0 N (F53 N d)⟩)], natTab []⟩
theorem l53_0 (N d : Nat) : ∀ A, (e53 N d).lp (lid (loopAt Try.f53 0)) = some A → LoopOk (e53 N d) N (loopAt Try.f53 0) A :=
  loopOk_of (A := ⟨⟨.normal, [1, 2, 3, 8], [.one (.int .i64), .one (.int .i64), .lp 3 0, .one (.int .i64)], [3], [.cells [(.int .i64), (.int .i64), (.cplx .f64), .str, (.int .i64), (.int .i64), .ref]]⟩, [⟨(.exit 0), [1], [.one (.int .i64)], [], []⟩, ⟨.ret, [6, 7], [.one (.int .i64), .one (.int .i64)], [], []⟩], L53_0 N (F53 N d)⟩) (by kernel_rfl) (fun _ => rfl) (fun _ _ => by kernel_rfl)
theorem fine53 (N d : Nat) : Fine (e53 N d) N 53 Try.f53 ks53 rs53 (F53 N (d + 1)) :=
  ⟨Try.func53, by kernel_rfl, by kernel_rfl, by kernel_rfl, loops_of ⟨l53_0 N d, trivial⟩, by kernel_rfl, by kernel_rfl, fun _ => by kernel_rfl⟩
theorem gd53 (N : Nat) : ∀ d, CalOk Try.prog 53 (.ro (mkFun ks53 rs53 (F53 N d)))
  | 0 => fun vs h s he => by obtain ⟨t, _, he⟩ := Option.bind_eq_some_iff.1 he; cases he
  | d + 1 => mkFun_ro (fine53 N d) (good_of ⟨gd66 N, ⟨gd53 N d, trivial⟩⟩) (by kernel_rfl)
theorem good53 (N d : Nat) : Go.L.Good (e53 N d) := good_of ⟨gd66 N, ⟨gd53 N d, trivial⟩⟩

/-! ### 27: carouselref03.Check -/
noncomputable def F27 (N : Nat) : Int × Int × (Nat × Nat) × ByteArray × Int × Int × V × H → Option (Int × H)
  | (a0_0, a0_1, a0_2, a0_3, a0_4, a0_5, a0_6, h) =>
    (F53 N N (a0_0, a0_1, (a0_2.1, a0_2.2), a0_3, a0_4, a0_5, a0_6, 0, 0, h)).bind fun (x1, x2, _) =>
    some (x2, h)
abbrev ks27 : List SK := [.agg [(.int .i64), (.int .i64), (.cplx .f64), .str, (.int .i64), (.int .i64), .ref]]
abbrev rs27 : List SK := [.one (.int .i64)]
noncomputable def e27 (N : Nat) : Env := ⟨Try.prog, 11, inTab [1], inTab [], natTab [(1, 1)], inTab [], calTab [(53, .ro (mkFun ks53 rs53 (F53 N N)))], altTab [], loopTab [], natTab []⟩
theorem fine27 (N : Nat) : Fine (e27 N) N 27 Try.f27 ks27 rs27 (F27 N) :=
  ⟨Try.func27, by kernel_rfl, by kernel_rfl, by kernel_rfl, loops_of trivial, by kernel_rfl, by kernel_rfl, fun _ => by kernel_rfl⟩
theorem good27 (N : Nat) : Go.L.Good (e27 N) := good_of ⟨gd53 N N, trivial⟩
theorem gd27 (N : Nat) : CalOk Try.prog 27 (.ro (mkFun ks27 rs27 (F27 N))) := mkFun_ro (fine27 N) (good27 N) (by kernel_rfl)

/-! ### 54: carouselref03.sign -/
noncomputable def F54 (N : Nat) : Int × Int × H → Option (Int × H)
  | (a0, a1, h) =>
    (if (decide (a0 < a1)) = true then (
    some ((-1), h))
    else (
    (if (decide (a0 > a1)) = true then (
    some (1, h))
    else (
    some (0, h)))))
abbrev ks54 : List SK := [.one (.int .i64), .one (.int .i64)]
abbrev rs54 : List SK := [.one (.int .i64)]
noncomputable def e54 (N : Nat) : Env := ⟨Try.prog, 11, inTab [], inTab [], natTab [], inTab [], calTab [], altTab [], loopTab [], natTab []⟩
theorem fine54 (N : Nat) : Fine (e54 N) N 54 Try.f54 ks54 rs54 (F54 N) :=
  ⟨Try.func54, by kernel_rfl, by kernel_rfl, by kernel_rfl, loops_of trivial, by kernel_rfl, by kernel_rfl, fun _ => by kernel_rfl⟩
theorem good54 (N : Nat) : Go.L.Good (e54 N) := good_of trivial
theorem gd54 : CalOk Try.prog 54 (.pure (mkP ks54 rs54 (F54 100))) := mkP_good (fine54 100) (good54 100) (by kernel_rfl) (by kernel_rfl)

/-! ### 29: carouselref03.Order -/
noncomputable def L29_0 (N : Nat) (rec : Int × Int × (Nat × Nat) × ByteArray × Int × Int × V × Int × Int × (Nat × Nat) × ByteArray × Int × Int × V × H → Option (Int × H)) : Nat → Int × Int × Int × (Nat × Nat) × ByteArray × Int × Int × V × Int × Int × (Nat × Nat) × ByteArray × Int × Int × V × H → Option ((Int × Int × (Nat × Nat) × ByteArray × Int × Int × V × Int × Int × (Nat × Nat) × ByteArray × Int × Int × V × H) ⊕ (Int × H))
  | 0, _ => none
  | n + 1, (x59, x60, x61, x62, x63, x64, x65, x66, x67, x68, x69, x70, x71, x72, x73, h74) =>
    (slen x66).bind fun n75 =>
    (if (decide (x59 < n75)) = true then (
    (slen x73).bind fun n78 =>
    some ((decide (x59 < n78)), h74))
    else (
    some (false, h74))).bind fun (b76, h77) =>
    (if b76 = true then (
    (sidx x66 x59 7).bind fun q79 =>
    (L.asInt .i64 (rd h77 q79 0)).bind fun x80 =>
    (L.asInt .i64 (rd h77 q79 1)).bind fun x81 =>
    (L.asCplx .f64 (rd h77 q79 2)).bind fun x82 =>
    (L.asStr (rd h77 q79 3)).bind fun x83 =>
    (L.asInt .i64 (rd h77 q79 4)).bind fun x84 =>
    (L.asInt .i64 (rd h77 q79 5)).bind fun x85 =>
    ((rd h77 q79 6)).bind fun x86 =>
    (sidx x73 x59 7).bind fun q87 =>
    (L.asInt .i64 (rd h77 q87 0)).bind fun x88 =>
    (L.asInt .i64 (rd h77 q87 1)).bind fun x89 =>
    (L.asCplx .f64 (rd h77 q87 2)).bind fun x90 =>
    (L.asStr (rd h77 q87 3)).bind fun x91 =>
    (L.asInt .i64 (rd h77 q87 4)).bind fun x92 =>
    (L.asInt .i64 (rd h77 q87 5)).bind fun x93 =>
    ((rd h77 q87 6)).bind fun x94 =>
    (rec (x80, x81, (x82.1, x82.2), x83, x84, x85, x86, x88, x89, (x90.1, x90.2), x91, x92, x93, x94, h77)).bind fun (x95, _) =>
    (if (x95 != 0) = true then (
    some (.inr (x95, h77)))
    else (
    L29_0 N rec n ((IntKind.i64.wrap (x59 + 1)), x60, x61, (x62.1, x62.2), x63, x64, x65, x66, x67, x68, (x69.1, x69.2), x70, x71, x72, x73, h77))))
    else (
    some (.inl (x60, x61, (x62.1, x62.2), x63, x64, x65, x66, x67, x68, (x69.1, x69.2), x70, x71, x72, x73, h77))))
noncomputable def F29 (N : Nat) : Nat → Int × Int × (Nat × Nat) × ByteArray × Int × Int × V × Int × Int × (Nat × Nat) × ByteArray × Int × Int × V × H → Option (Int × H)
  | 0, _ => none
  | d + 1, (a0_0, a0_1, a0_2, a0_3, a0_4, a0_5, a0_6, a1_0, a1_1, a1_2, a1_3, a1_4, a1_5, a1_6, h) =>
    (if (a0_0 != a1_0) = true then (
    (F54 100 (a0_0, a1_0, [])).bind fun (x1, _) =>
    some (x1, h))
    else (
    (if (a0_0 == 4) = true then (
    (f2i .f64 a0_2.1 .i64).bind fun x2 =>
    (f2i .f64 a1_2.1 .i64).bind fun x3 =>
    (F54 100 (x2, x3, [])).bind fun (x4, _) =>
    ((if (x4 == 0) = true then (
    (f2i .f64 a0_2.2 .i64).bind fun x5 =>
    (f2i .f64 a1_2.2 .i64).bind fun x6 =>
    (F54 100 (x5, x6, [])).bind fun (x7, _) =>
    some (x7, h))
    else (
    some (x4, h))) : Option (Int × H)).bind fun (x8, h9) =>
    some (x8, h9))
    else (
    (if (a0_0 == 5) = true then (
    (if ((a0_3).toList == (a1_3).toList) = true then (
    some (0, h))
    else (
    (if (Op.bytesLess (a0_3).toList (a1_3).toList) = true then (
    some ((-1), h))
    else (
    some (1, h))))))
    else (
    (if (a0_0 == 6) = true then (
    (F54 100 (a0_4, a1_4, [])).bind fun (x10, _) =>
    ((if (x10 == 0) = true then (
    (F54 100 (a0_5, a1_5, [])).bind fun (x11, _) =>
    some (x11, h))
    else (
    some (x10, h))) : Option (Int × H)).bind fun (x12, h13) =>
    some (x12, h13))
    else (
    ((if (a0_0 == 8) = true then (
    some ((a0_0 == 8), a0_0, a0_1, (a0_2.1, a0_2.2), a0_3, a0_4, a0_5, a0_6, a1_0, a1_1, (a1_2.1, a1_2.2), a1_3, a1_4, a1_5, a1_6, h))
    else (
    some ((a0_0 == 9), a0_0, a0_1, (a0_2.1, a0_2.2), a0_3, a0_4, a0_5, a0_6, a1_0, a1_1, (a1_2.1, a1_2.2), a1_3, a1_4, a1_5, a1_6, h))) : Option (Bool × Int × Int × (Nat × Nat) × ByteArray × Int × Int × V × Int × Int × (Nat × Nat) × ByteArray × Int × Int × V × H)).bind fun (x14, x15, x16, x17, x18, x19, x20, x21, x22, x23, x24, x25, x26, x27, x28, h29) =>
    (if x14 = true then (
    (L29_0 N (F29 N d) N (0, x15, x16, (x17.1, x17.2), x18, x19, x20, x21, x22, x23, (x24.1, x24.2), x25, x26, x27, x28, h29)).bind fun o30 => match o30 with
    | .inl (x31, x32, x33, x34, x35, x36, x37, x38, x39, x40, x41, x42, x43, x44, h45) => (
    (slen x37).bind fun n46 =>
    (slen x44).bind fun n47 =>
    (F54 100 (n46, n47, [])).bind fun (x48, _) =>
    some (x48, h45))
    | .inr (x49, h50) => (
    some (x49, h50)))
    else (
    (F54 100 (x16, x23, [])).bind fun (x51, _) =>
    some (x51, h29)))))))))))
abbrev ks29 : List SK := [.agg [(.int .i64), (.int .i64), (.cplx .f64), .str, (.int .i64), (.int .i64), .ref], .agg [(.int .i64), (.int .i64), (.cplx .f64), .str, (.int .i64), (.int .i64), .ref]]
abbrev rs29 : List SK := [.one (.int .i64)]
noncomputable def e29 (N d : Nat) : Env := ⟨Try.prog, 118, inTab [2, 3], inTab [], natTab [(2, 2), (3, 3), (9, 2), (11, 3), (14, 2), (16, 3), (19, 2), (23, 2), (27, 3), (34, 2), (38, 3), (46, 2), (48, 3), (51, 2), (53, 3), (58, 2), (59, 2), (61, 3), (62, 3), (67, 2), (68, 2), (70, 3), (71, 3), (79, 2), (85, 3), (92, 2), (97, 3), (106, 2), (109, 3), (113, 2), (115, 3)], inTab [], calTab [(54, .pure (mkP ks54 rs54 (F54 100))), (29, .ro (mkFun ks29 rs29 (F29 N d)))], altTab [(458785, [⟨.normal, [5], [.one (.int .i64)], [], []⟩]), (1179714, [⟨.normal, [6], [.one (.int .i64)], [], []⟩]), (5637144651, [⟨.normal, [2, 3, 75], [.lp 2 0, .lp 3 0, .one .bool], [2, 3], [.cells [(.int .i64), (.int .i64), (.cplx .f64), .str, (.int .i64), (.int .i64), .ref], .cells [(.int .i64), (.int .i64), (.cplx .f64), .str, (.int .i64), (.int .i64), .ref]]⟩])], loopTab [(23, ⟨⟨.normal, [2, 3, 7], [.lp 2 0, .lp 3 0, .one (.int .i64)], [2, 3], [.cells [(.int .i64), (.int .i64), (.cplx .f64), .str, (.int .i64), (.int .i64), .ref], .cells [(.int .i64), (.int .i64), (.cplx .f64), .str, (.int .i64), (.int .i64), .ref]]⟩, [⟨(.exit 1), [2, 3], [.lp 2 0, .lp 3 0], [2, 3], [.cells [(.int .i64), (.int .i64), (.cplx .f64), .str, (.int .i64), (.int .i64), .ref], .cells [(.int .i64), (.int .i64), (.cplx .f64), .str, (.int .i64), (.int .i64), .ref]]⟩, ⟨.ret, [4], [.one (.int .i64)], [], []⟩], L29_0 N (F29 N d)⟩)], natTab []⟩
theorem l29_0 (N d : Nat) : ∀ A, (e29 N d).lp (lid (loopAt Try.f29 0)) = some A → LoopOk (e29 N d) N (loopAt Try.f29 0) A :=
  loopOk_of (A := ⟨⟨.normal, [2, 3, 7], [.lp 2 0, .lp 3 0, .one (.int .i64)], [2, 3], [.cells [(.int .i64), (.int .i64), (.cplx .f64), .str, (.int .i64), (.int .i64), .ref], .cells [(.int .i64), (.int .i64), (.cplx .f64), .str, (.int .i64), (.int .i64), .ref]]⟩, [⟨(.exit 1), [2, 3], [.lp 2 0, .lp 3 0], [2, 3], [.cells [(.int .i64), (.int .i64), (.cplx .f64), .str, (.int .i64), (.int .i64), .ref], .cells [(.int .i64), (.int .i64), (.cplx .f64), .str, (.int .i64), (.int .i64), .ref]]⟩, ⟨.ret, [4], [.one (.int .i64)], [], []⟩], L29_0 N (F29 N d)⟩) (by kernel_rfl) (fun _ => rfl) (fun _ _ => by kernel_rfl)
theorem fine29 (N d : Nat) : Fine (e29 N d) N 29 Try.f29 ks29 rs29 (F29 N (d + 1)) :=
  ⟨Try.func29, by kernel_rfl, by kernel_rfl, by kernel_rfl, loops_of ⟨l29_0 N d, trivial⟩, by kernel_rfl, by kernel_rfl, fun _ => by kernel_rfl⟩
theorem gd29 (N : Nat) : ∀ d, CalOk Try.prog 29 (.ro (mkFun ks29 rs29 (F29 N d)))
  | 0 => fun vs h s he => by obtain ⟨t, _, he⟩ := Option.bind_eq_some_iff.1 he; cases he
  | d + 1 => mkFun_ro (fine29 N d) (good_of ⟨gd54, ⟨gd29 N d, trivial⟩⟩) (by kernel_rfl)
theorem good29 (N d : Nat) : Go.L.Good (e29 N d) := good_of ⟨gd54, ⟨gd29 N d, trivial⟩⟩

/-! ### 28: carouselref03.Bool -/
noncomputable def F28 (N : Nat) : Bool × H → Option (Int × Int × (Nat × Nat) × ByteArray × Int × Int × V × H)
  | (a0, h) =>
    (if a0 = true then (
    some (2, 1, (0, 0), (ByteArray.mk #[]), 0, 0, .nils, h))
    else (
    some (2, 0, (0, 0), (ByteArray.mk #[]), 0, 0, .nils, h)))
abbrev ks28 : List SK := [.one .bool]
abbrev rs28 : List SK := [.agg [(.int .i64), (.int .i64), (.cplx .f64), .str, (.int .i64), (.int .i64), .ref]]
noncomputable def e28 (N : Nat) : Env := ⟨Try.prog, 6, inTab [2], inTab [], natTab [(2, 2)], inTab [], calTab [], altTab [], loopTab [], natTab []⟩
theorem fine28 (N : Nat) : Fine (e28 N) N 28 Try.f28 ks28 rs28 (F28 N) :=
  ⟨Try.func28, by kernel_rfl, by kernel_rfl, by kernel_rfl, loops_of trivial, by kernel_rfl, by kernel_rfl, fun _ => by kernel_rfl⟩
theorem good28 (N : Nat) : Go.L.Good (e28 N) := good_of trivial
theorem gd28 (N : Nat) : CalOk Try.prog 28 (.ro (mkFun ks28 rs28 (F28 N))) := mkFun_ro (fine28 N) (good28 N) (by kernel_rfl)

/-! ### 30: carouselref03.numeric -/
noncomputable def F30 (N : Nat) : Int × Int × (Nat × Nat) × ByteArray × Int × Int × V × H → Option (Bool × H)
  | (a0_0, a0_1, a0_2, a0_3, a0_4, a0_5, a0_6, h) =>
    (if (a0_0 == 3) = true then (
    some (true, h))
    else (
    some ((a0_0 == 4), h))).bind fun (b1, h2) =>
    some (b1, h2)
abbrev ks30 : List SK := [.agg [(.int .i64), (.int .i64), (.cplx .f64), .str, (.int .i64), (.int .i64), .ref]]
abbrev rs30 : List SK := [.one .bool]
noncomputable def e30 (N : Nat) : Env := ⟨Try.prog, 11, inTab [1], inTab [], natTab [(1, 1), (3, 1), (7, 1)], inTab [], calTab [], altTab [], loopTab [], natTab []⟩
theorem fine30 (N : Nat) : Fine (e30 N) N 30 Try.f30 ks30 rs30 (F30 N) :=
  ⟨Try.func30, by kernel_rfl, by kernel_rfl, by kernel_rfl, loops_of trivial, by kernel_rfl, by kernel_rfl, fun _ => by kernel_rfl⟩
theorem good30 (N : Nat) : Go.L.Good (e30 N) := good_of trivial
theorem gd30 (N : Nat) : CalOk Try.prog 30 (.ro (mkFun ks30 rs30 (F30 N))) := mkFun_ro (fine30 N) (good30 N) (by kernel_rfl)

/-! ### 55: carouselref03.within -/
noncomputable def F55 (N : Nat) : Int × Int × (Nat × Nat) × ByteArray × Int × Int × V × H → Option (Bool × H)
  | (a0_0, a0_1, a0_2, a0_3, a0_4, a0_5, a0_6, h) =>
    (if (a0_0 == 4) = true then (
    some (true, h))
    else (
    (if (decide (a0_1 ≥ (-1073741824))) = true then (
    some ((decide (a0_1 ≤ 1073741824)), h))
    else (
    some (false, h))).bind fun (b3, h4) =>
    some (b3, h4))).bind fun (b1, h2) =>
    some (b1, h2)
abbrev ks55 : List SK := [.agg [(.int .i64), (.int .i64), (.cplx .f64), .str, (.int .i64), (.int .i64), .ref]]
abbrev rs55 : List SK := [.one .bool]
noncomputable def e55 (N : Nat) : Env := ⟨Try.prog, 16, inTab [1], inTab [], natTab [(1, 1), (3, 1), (7, 1), (11, 1)], inTab [], calTab [], altTab [], loopTab [], natTab []⟩
theorem fine55 (N : Nat) : Fine (e55 N) N 55 Try.f55 ks55 rs55 (F55 N) :=
  ⟨Try.func55, by kernel_rfl, by kernel_rfl, by kernel_rfl, loops_of trivial, by kernel_rfl, by kernel_rfl, fun _ => by kernel_rfl⟩
theorem good55 (N : Nat) : Go.L.Good (e55 N) := good_of trivial
theorem gd55 (N : Nat) : CalOk Try.prog 55 (.ro (mkFun ks55 rs55 (F55 N))) := mkFun_ro (fine55 N) (good55 N) (by kernel_rfl)

/-! ### 56: carouselref03.parts -/
noncomputable def F56 (N : Nat) : Int × Int × (Nat × Nat) × ByteArray × Int × Int × V × H → Option (Int × Int × H)
  | (a0_0, a0_1, a0_2, a0_3, a0_4, a0_5, a0_6, h) =>
    (if (a0_0 == 3) = true then (
    some (a0_1, 0, h))
    else (
    (f2i .f64 a0_2.1 .i64).bind fun x1 =>
    (f2i .f64 a0_2.2 .i64).bind fun x2 =>
    some (x1, x2, h)))
abbrev ks56 : List SK := [.agg [(.int .i64), (.int .i64), (.cplx .f64), .str, (.int .i64), (.int .i64), .ref]]
abbrev rs56 : List SK := [.one (.int .i64), .one (.int .i64)]
noncomputable def e56 (N : Nat) : Env := ⟨Try.prog, 17, inTab [1], inTab [], natTab [(1, 1), (4, 1), (7, 1), (9, 1), (13, 1)], inTab [], calTab [], altTab [], loopTab [], natTab []⟩
theorem fine56 (N : Nat) : Fine (e56 N) N 56 Try.f56 ks56 rs56 (F56 N) :=
  ⟨Try.func56, by kernel_rfl, by kernel_rfl, by kernel_rfl, loops_of trivial, by kernel_rfl, by kernel_rfl, fun _ => by kernel_rfl⟩
theorem good56 (N : Nat) : Go.L.Good (e56 N) := good_of trivial
theorem gd56 (N : Nat) : CalOk Try.prog 56 (.ro (mkFun ks56 rs56 (F56 N))) := mkFun_ro (fine56 N) (good56 N) (by kernel_rfl)

/-! ### 57: carouselref03.number -/
noncomputable def F57 (N : Nat) : Int × Int × H → Option (Int × Int × (Nat × Nat) × ByteArray × Int × Int × V × Int × H)
  | (a0, a1, h) =>
    (if (decide (a0 < (-1073741824))) = true then (
    some (true, h))
    else (
    some ((decide (a0 > 1073741824)), h))).bind fun (b1, h2) =>
    (if b1 = true then (
    some (true, h2))
    else (
    some ((decide (a1 < (-1073741824))), h2))).bind fun (b3, h4) =>
    (if b3 = true then (
    some (true, h4))
    else (
    some ((decide (a1 > 1073741824)), h4))).bind fun (b5, h6) =>
    (if b5 = true then (
    some (0, 0, (0, 0), (ByteArray.mk #[]), 0, 0, .nils, 31, h6))
    else (
    some (4, 0, ((FloatKind.f64.nearest a0), (FloatKind.f64.nearest a1)), (ByteArray.mk #[]), 0, 0, .nils, 0, h6)))
abbrev ks57 : List SK := [.one (.int .i64), .one (.int .i64)]
abbrev rs57 : List SK := [.agg [(.int .i64), (.int .i64), (.cplx .f64), .str, (.int .i64), (.int .i64), .ref], .one (.int .i64)]
noncomputable def e57 (N : Nat) : Env := ⟨Try.prog, 27, inTab [4], inTab [], natTab [(4, 4)], inTab [], calTab [], altTab [], loopTab [], natTab []⟩
theorem fine57 (N : Nat) : Fine (e57 N) N 57 Try.f57 ks57 rs57 (F57 N) :=
  ⟨Try.func57, by kernel_rfl, by kernel_rfl, by kernel_rfl, loops_of trivial, by kernel_rfl, by kernel_rfl, fun _ => by kernel_rfl⟩
theorem good57 (N : Nat) : Go.L.Good (e57 N) := good_of trivial
theorem gd57 (N : Nat) : CalOk Try.prog 57 (.ro (mkFun ks57 rs57 (F57 N))) := mkFun_ro (fine57 N) (good57 N) (by kernel_rfl)

/-! ### 31: carouselref03.turned -/
noncomputable def L31_0 (N : Nat) : Nat → Int × Int × Int × Int × Int × (Nat × Nat) × ByteArray × Int × Int × V × H → Option (Int × Int × Int × Int × (Nat × Nat) × ByteArray × Int × Int × V × H)
  | 0, _ => none
  | n + 1, (x26, x27, x28, x29, x30, x31, x32, x33, x34, x35, h36) =>
    (if (decide (x28 > 0)) = true then (
    L31_0 N n ((IntKind.i64.wrap (0 - x27)), x26, (IntKind.i64.wrap (x28 - 1)), x29, x30, (x31.1, x31.2), x32, x33, x34, x35, h36))
    else (
    some (x26, x27, x29, x30, (x31.1, x31.2), x32, x33, x34, x35, h36)))
noncomputable def F31 (N : Nat) : Int × Int × (Nat × Nat) × ByteArray × Int × Int × V × Int × H → Option (Int × Int × (Nat × Nat) × ByteArray × Int × Int × V × Int × H)
  | (a0_0, a0_1, a0_2, a0_3, a0_4, a0_5, a0_6, a1, h) =>
    (F55 N (a0_0, a0_1, (a0_2.1, a0_2.2), a0_3, a0_4, a0_5, a0_6, h)).bind fun (x1, _) =>
    (if (!x1) = true then (
    some (0, 0, (0, 0), (ByteArray.mk #[]), 0, 0, .nils, 31, h))
    else (
    (F56 N (a0_0, a0_1, (a0_2.1, a0_2.2), a0_3, a0_4, a0_5, a0_6, h)).bind fun (x2, x3, _) =>
    ((if (decide ((Int.tmod a1 4) < 0)) = true then (
    some (x2, x3, (IntKind.i64.wrap ((Int.tmod a1 4) + 4)), 0, 0, (0, 0), (ByteArray.mk #[]), 0, 0, .nils, h))
    else (
    some (x2, x3, (Int.tmod a1 4), 0, 0, (0, 0), (ByteArray.mk #[]), 0, 0, .nils, h))) : Option (Int × Int × Int × Int × Int × (Nat × Nat) × ByteArray × Int × Int × V × H)).bind fun (x4, x5, x6, x7, x8, x9, x10, x11, x12, x13, h14) =>
    (L31_0 N N (x4, x5, x6, x7, x8, (x9.1, x9.2), x10, x11, x12, x13, h14)).bind fun (x37, x38, x39, x40, x41, x42, x43, x44, x45, h46) =>
    (F57 N (x37, x38, h46)).bind fun (x47, x48, x49, x50, x51, x52, x53, x54, _) =>
    some (x47, x48, (x49.1, x49.2), x50, x51, x52, x53, x54, h46)))
abbrev ks31 : List SK := [.agg [(.int .i64), (.int .i64), (.cplx .f64), .str, (.int .i64), (.int .i64), .ref], .one (.int .i64)]
abbrev rs31 : List SK := [.agg [(.int .i64), (.int .i64), (.cplx .f64), .str, (.int .i64), (.int .i64), .ref], .one (.int .i64)]
noncomputable def e31 (N : Nat) : Env := ⟨Try.prog, 36, inTab [2, 4], inTab [], natTab [(2, 2), (4, 4)], inTab [], calTab [(55, .ro (mkFun ks55 rs55 (F55 N))), (56, .ro (mkFun ks56 rs56 (F56 N))), (57, .ro (mkFun ks57 rs57 (F57 N)))], altTab [(393237, [⟨.normal, [4, 6, 7, 8], [.lp 4 0, .one (.int .i64), .one (.int .i64), .one (.int .i64)], [4], [.cells [(.int .i64), (.int .i64), (.cplx .f64), .str, (.int .i64), (.int .i64), .ref]]⟩])], loopTab [(7, ⟨⟨.normal, [4, 6, 7, 8], [.lp 4 0, .one (.int .i64), .one (.int .i64), .one (.int .i64)], [4], [.cells [(.int .i64), (.int .i64), (.cplx .f64), .str, (.int .i64), (.int .i64), .ref]]⟩, [⟨(.exit 0), [4, 6, 7], [.lp 4 0, .one (.int .i64), .one (.int .i64)], [4], [.cells [(.int .i64), (.int .i64), (.cplx .f64), .str, (.int .i64), (.int .i64), .ref]]⟩], L31_0 N⟩)], natTab []⟩
theorem l31_0 (N : Nat) : ∀ A, (e31 N).lp (lid (loopAt Try.f31 0)) = some A → LoopOk (e31 N) N (loopAt Try.f31 0) A :=
  loopOk_of (A := ⟨⟨.normal, [4, 6, 7, 8], [.lp 4 0, .one (.int .i64), .one (.int .i64), .one (.int .i64)], [4], [.cells [(.int .i64), (.int .i64), (.cplx .f64), .str, (.int .i64), (.int .i64), .ref]]⟩, [⟨(.exit 0), [4, 6, 7], [.lp 4 0, .one (.int .i64), .one (.int .i64)], [4], [.cells [(.int .i64), (.int .i64), (.cplx .f64), .str, (.int .i64), (.int .i64), .ref]]⟩], L31_0 N⟩) (by kernel_rfl) (fun _ => rfl) (fun _ _ => by kernel_rfl)
theorem fine31 (N : Nat) : Fine (e31 N) N 31 Try.f31 ks31 rs31 (F31 N) :=
  ⟨Try.func31, by kernel_rfl, by kernel_rfl, by kernel_rfl, loops_of ⟨l31_0 N, trivial⟩, by kernel_rfl, by kernel_rfl, fun _ => by kernel_rfl⟩
theorem good31 (N : Nat) : Go.L.Good (e31 N) := good_of ⟨gd55 N, ⟨gd56 N, ⟨gd57 N, trivial⟩⟩⟩
theorem gd31 (N : Nat) : CalOk Try.prog 31 (.ro (mkFun ks31 rs31 (F31 N))) := mkFun_ro (fine31 N) (good31 N) (by kernel_rfl)

/-! ### 32: carouselref03.listed -/
noncomputable def F32 (N : Nat) : Int × Int × (Nat × Nat) × ByteArray × Int × Int × V × H → Option (Bool × H)
  | (a0_0, a0_1, a0_2, a0_3, a0_4, a0_5, a0_6, h) =>
    (if (a0_0 == 8) = true then (
    some (true, h))
    else (
    some ((a0_0 == 9), h))).bind fun (b1, h2) =>
    some (b1, h2)
abbrev ks32 : List SK := [.agg [(.int .i64), (.int .i64), (.cplx .f64), .str, (.int .i64), (.int .i64), .ref]]
abbrev rs32 : List SK := [.one .bool]
noncomputable def e32 (N : Nat) : Env := ⟨Try.prog, 11, inTab [1], inTab [], natTab [(1, 1), (3, 1), (7, 1)], inTab [], calTab [], altTab [], loopTab [], natTab []⟩
theorem fine32 (N : Nat) : Fine (e32 N) N 32 Try.f32 ks32 rs32 (F32 N) :=
  ⟨Try.func32, by kernel_rfl, by kernel_rfl, by kernel_rfl, loops_of trivial, by kernel_rfl, by kernel_rfl, fun _ => by kernel_rfl⟩
theorem good32 (N : Nat) : Go.L.Good (e32 N) := good_of trivial
theorem gd32 (N : Nat) : CalOk Try.prog 32 (.ro (mkFun ks32 rs32 (F32 N))) := mkFun_ro (fine32 N) (good32 N) (by kernel_rfl)

/-! ### 58: carouselref03.All -/
noncomputable def L58_0 (N : Nat) : Nat → V × Int × H → Option ((H) ⊕ (Int × H))
  | 0, _ => none
  | n + 1, (x14, x15, h16) =>
    (slen x14).bind fun n17 =>
    (if (decide (x15 < n17)) = true then (
    (sidx x14 x15 7).bind fun q18 =>
    (L.asInt .i64 (rd h16 q18 0)).bind fun x19 =>
    (L.asInt .i64 (rd h16 q18 1)).bind fun x20 =>
    (L.asCplx .f64 (rd h16 q18 2)).bind fun x21 =>
    (L.asStr (rd h16 q18 3)).bind fun x22 =>
    (L.asInt .i64 (rd h16 q18 4)).bind fun x23 =>
    (L.asInt .i64 (rd h16 q18 5)).bind fun x24 =>
    ((rd h16 q18 6)).bind fun x25 =>
    (F27 N (x19, x20, (x21.1, x21.2), x22, x23, x24, x25, h16)).bind fun (x26, _) =>
    (if (x26 != 0) = true then (
    some (.inr (x26, h16)))
    else (
    L58_0 N n (x14, (IntKind.i64.wrap (x15 + 1)), h16))))
    else (
    some (.inl h16)))
noncomputable def F58 (N : Nat) : V × H → Option (Int × H)
  | (a0, h) =>
    (L58_0 N N (a0, 0, h)).bind fun o27 => match o27 with
    | .inl h28 => (
    some (0, h28))
    | .inr (x29, h30) => (
    some (x29, h30))
abbrev ks58 : List SK := [.one .ref]
abbrev rs58 : List SK := [.one (.int .i64)]
noncomputable def e58 (N : Nat) : Env := ⟨Try.prog, 19, inTab [], inTab [], natTab [], inTab [], calTab [(27, .ro (mkFun ks27 rs27 (F27 N)))], altTab [], loopTab [(2, ⟨⟨.normal, [0, 3], [.one .ref, .one (.int .i64)], [], []⟩, [⟨(.exit 0), [], [], [], []⟩, ⟨.ret, [2], [.one (.int .i64)], [], []⟩], L58_0 N⟩)], natTab []⟩
theorem l58_0 (N : Nat) : ∀ A, (e58 N).lp (lid (loopAt Try.f58 0)) = some A → LoopOk (e58 N) N (loopAt Try.f58 0) A :=
  loopOk_of (A := ⟨⟨.normal, [0, 3], [.one .ref, .one (.int .i64)], [], []⟩, [⟨(.exit 0), [], [], [], []⟩, ⟨.ret, [2], [.one (.int .i64)], [], []⟩], L58_0 N⟩) (by kernel_rfl) (fun _ => rfl) (fun _ _ => by kernel_rfl)
theorem fine58 (N : Nat) : Fine (e58 N) N 58 Try.f58 ks58 rs58 (F58 N) :=
  ⟨Try.func58, by kernel_rfl, by kernel_rfl, by kernel_rfl, loops_of ⟨l58_0 N, trivial⟩, by kernel_rfl, by kernel_rfl, fun _ => by kernel_rfl⟩
theorem good58 (N : Nat) : Go.L.Good (e58 N) := good_of ⟨gd27 N, trivial⟩
theorem gd58 (N : Nat) : CalOk Try.prog 58 (.ro (mkFun ks58 rs58 (F58 N))) := mkFun_ro (fine58 N) (good58 N) (by kernel_rfl)

/-! ### 33: carouselref03.Make -/
noncomputable def F33 (N : Nat) : Int × V × H → Option (Int × Int × (Nat × Nat) × ByteArray × Int × Int × V × Int × H)
  | (a0, a1, h) =>
    (if (a0 != 8) = true then (
    some ((a0 != 9), h))
    else (
    some (false, h))).bind fun (b1, h2) =>
    (if b1 = true then (
    some (0, 0, (0, 0), (ByteArray.mk #[]), 0, 0, .nils, 1, h2))
    else (
    (F58 N (a1, h2)).bind fun (x3, _) =>
    (if (x3 != 0) = true then (
    some (0, 0, (0, 0), (ByteArray.mk #[]), 0, 0, .nils, x3, h2))
    else (
    (scells h2 a1 7).bind fun cs6 =>
    (happ h2 .nils 7 (snlen a1) cs6).bind fun (v4, h5) =>
    (ck1 v4).bind fun _ =>
    (F27 N (a0, 0, (0, 0), (ByteArray.mk #[]), 0, 0, v4, h5)).bind fun (x7, _) =>
    (if (x7 != 0) = true then (
    some (0, 0, (0, 0), (ByteArray.mk #[]), 0, 0, .nils, 34, h5))
    else (
    some (a0, 0, (0, 0), (ByteArray.mk #[]), 0, 0, v4, 0, h5)))))))
abbrev ks33 : List SK := [.one (.int .i64), .one .ref]
abbrev rs33 : List SK := [.agg [(.int .i64), (.int .i64), (.cplx .f64), .str, (.int .i64), (.int .i64), .ref], .one (.int .i64)]
noncomputable def e33 (N : Nat) : Env := ⟨Try.prog, 33, inTab [4, 7], inTab [], natTab [(4, 4), (7, 7), (23, 7), (27, 7)], inTab [], calTab [(58, .ro (mkFun ks58 rs58 (F58 N))), (27, .ro (mkFun ks27 rs27 (F27 N)))], altTab [], loopTab [], natTab []⟩
theorem fine33 (N : Nat) : Fine (e33 N) N 33 Try.f33 ks33 rs33 (F33 N) :=
  ⟨Try.func33, by kernel_rfl, by kernel_rfl, by kernel_rfl, loops_of trivial, by kernel_rfl, by kernel_rfl, fun _ => by kernel_rfl⟩
theorem good33 (N : Nat) : Go.L.Good (e33 N) := good_of ⟨gd58 N, ⟨gd27 N, trivial⟩⟩
theorem gd33 (N : Nat) : CalOk Try.prog 33 (.full (mkFun ks33 rs33 (F33 N))) := mkFun_good (fine33 N) (good33 N)

/-! ### 59: carouselref03.size -/
noncomputable def F59 (N : Nat) : Int × H → Option (Int × H)
  | (a0, h) =>
    (if (decide (a0 < 0)) = true then (
    some ((IntKind.i64.wrap (0 - a0)), h))
    else (
    some (a0, h)))
abbrev ks59 : List SK := [.one (.int .i64)]
abbrev rs59 : List SK := [.one (.int .i64)]
noncomputable def e59 (N : Nat) : Env := ⟨Try.prog, 8, inTab [], inTab [], natTab [], inTab [], calTab [], altTab [], loopTab [], natTab []⟩
theorem fine59 (N : Nat) : Fine (e59 N) N 59 Try.f59 ks59 rs59 (F59 N) :=
  ⟨Try.func59, by kernel_rfl, by kernel_rfl, by kernel_rfl, loops_of trivial, by kernel_rfl, by kernel_rfl, fun _ => by kernel_rfl⟩
theorem good59 (N : Nat) : Go.L.Good (e59 N) := good_of trivial
theorem gd59 : CalOk Try.prog 59 (.pure (mkP ks59 rs59 (F59 100))) := mkP_good (fine59 100) (good59 100) (by kernel_rfl) (by kernel_rfl)

/-! ### 34: carouselref03.ints -/
noncomputable def F34 (N : Nat) : Int × Int × Int × H → Option (Int × Int × (Nat × Nat) × ByteArray × Int × Int × V × Int × H)
  | (a0, a1, a2, h) =>
    ((if (a0 == 6) = true then (
    some (.inl ((IntKind.i64.wrap (a1 + a2)), 0, 0, (0, 0), (ByteArray.mk #[]), 0, 0, .nils, h)))
    else (
    (if (a0 == 7) = true then (
    some (.inl ((IntKind.i64.wrap (a1 - a2)), 0, 0, (0, 0), (ByteArray.mk #[]), 0, 0, .nils, h)))
    else (
    (if (a0 == 8) = true then (
    (if (a1 != 0) = true then (
    (F59 100 (a1, [])).bind fun (x3, _) =>
    (if x3 = 0 then none else (
    (if (decide (a2 > (IntKind.i64.wrap (Int.tdiv 4611686018427387903 x3)))) = true then (
    some (true, h))
    else (
    (F59 100 (a1, [])).bind fun (x6, _) =>
    (if x6 = 0 then none else (
    some ((decide (a2 < (IntKind.i64.wrap (0 - (IntKind.i64.wrap (Int.tdiv 4611686018427387903 x6)))))), h))))).bind fun (b4, h5) =>
    some (b4, h5))))
    else (
    some (false, h))).bind fun (b1, h2) =>
    (if b1 = true then (
    some (.inr (31, 0, 0, (0, 0), (ByteArray.mk #[]), 0, 0, .nils, h2)))
    else (
    some (.inl ((IntKind.i64.wrap (a1 * a2)), 0, 0, (0, 0), (ByteArray.mk #[]), 0, 0, .nils, h2)))))
    else (
    ((if (a0 == 9) = true then (
    some (a0, a1, a2, 0, (a0 == 9), 0, 0, (0, 0), (ByteArray.mk #[]), 0, 0, .nils, h))
    else (
    some (a0, a1, a2, 0, (a0 == 10), 0, 0, (0, 0), (ByteArray.mk #[]), 0, 0, .nils, h))) : Option (Int × Int × Int × Int × Bool × Int × Int × (Nat × Nat) × ByteArray × Int × Int × V × H)).bind fun (x7, x8, x9, x10, x11, x12, x13, x14, x15, x16, x17, x18, h19) =>
    (if x11 = true then (
    (if (x9 == 0) = true then (
    some (.inr (33, 0, 0, (0, 0), (ByteArray.mk #[]), 0, 0, .nils, h19)))
    else (
    (if x9 = 0 then none else (
    (if (x7 == 10) = true then (
    (if x9 = 0 then none else (
    some (.inl ((Int.tmod x8 x9), x12, x13, (x14.1, x14.2), x15, x16, x17, x18, h19)))))
    else (
    some (.inl ((IntKind.i64.wrap (Int.tdiv x8 x9)), x12, x13, (x14.1, x14.2), x15, x16, x17, x18, h19)))))))))
    else (
    some (.inl (x10, x12, x13, (x14.1, x14.2), x15, x16, x17, x18, h19)))))))))) : Option ((Int × Int × Int × (Nat × Nat) × ByteArray × Int × Int × V × H) ⊕ (Int × Int × Int × (Nat × Nat) × ByteArray × Int × Int × V × H))).bind fun o20 => match o20 with
    | .inl (x21, x22, x23, x24, x25, x26, x27, x28, h29) => (
    (if (decide (x21 > 4611686018427387903)) = true then (
    some (true, h29))
    else (
    some ((decide (x21 < (-4611686018427387903))), h29))).bind fun (b30, h31) =>
    (if b30 = true then (
    some (0, 0, (0, 0), (ByteArray.mk #[]), 0, 0, .nils, 31, h31))
    else (
    (F5 N (x21, h31)).bind fun (x32, x33, x34, x35, x36, x37, x38, _) =>
    some (x32, x33, (x34.1, x34.2), x35, x36, x37, x38, 0, h31))))
    | .inr (x39, x40, x41, x42, x43, x44, x45, x46, h47) => (
    some (x40, x41, (x42.1, x42.2), x43, x44, x45, x46, x39, h47))
abbrev ks34 : List SK := [.one (.int .i64), .one (.int .i64), .one (.int .i64)]
abbrev rs34 : List SK := [.agg [(.int .i64), (.int .i64), (.cplx .f64), .str, (.int .i64), (.int .i64), .ref], .one (.int .i64)]
noncomputable def e34 (N : Nat) : Env := ⟨Try.prog, 66, inTab [6], inTab [], natTab [(6, 6)], inTab [], calTab [(59, .pure (mkP ks59 rs59 (F59 100))), (5, .ro (mkFun ks5 rs5 (F5 N)))], altTab [(1342439434, [⟨.normal, [6, 8], [.lp 6 0, .one (.int .i64)], [6], [.cells [(.int .i64), (.int .i64), (.cplx .f64), .str, (.int .i64), (.int .i64), .ref]]⟩, ⟨.ret, [6, 7], [.lp 6 0, .one (.int .i64)], [6], [.cells [(.int .i64), (.int .i64), (.cplx .f64), .str, (.int .i64), (.int .i64), .ref]]⟩]), (3221225515, [⟨.normal, [0, 1, 2, 6, 8, 43], [.one (.int .i64), .one (.int .i64), .one (.int .i64), .lp 6 0, .one (.int .i64), .one .bool], [6], [.cells [(.int .i64), (.int .i64), (.cplx .f64), .str, (.int .i64), (.int .i64), .ref]]⟩])], loopTab [], natTab []⟩
theorem fine34 (N : Nat) : Fine (e34 N) N 34 Try.f34 ks34 rs34 (F34 N) :=
  ⟨Try.func34, by kernel_rfl, by kernel_rfl, by kernel_rfl, loops_of trivial, by kernel_rfl, by kernel_rfl, fun _ => by kernel_rfl⟩
theorem good34 (N : Nat) : Go.L.Good (e34 N) := good_of ⟨gd59, ⟨gd5 N, trivial⟩⟩
theorem gd34 (N : Nat) : CalOk Try.prog 34 (.ro (mkFun ks34 rs34 (F34 N))) := mkFun_ro (fine34 N) (good34 N) (by kernel_rfl)

/-! ### 35: carouselref03.numbers -/
noncomputable def F35 (N : Nat) : Int × Int × Int × (Nat × Nat) × ByteArray × Int × Int × V × Int × Int × (Nat × Nat) × ByteArray × Int × Int × V × H → Option (Int × Int × (Nat × Nat) × ByteArray × Int × Int × V × Int × H)
  | (a0, a1_0, a1_1, a1_2, a1_3, a1_4, a1_5, a1_6, a2_0, a2_1, a2_2, a2_3, a2_4, a2_5, a2_6, h) =>
    (if (a0 == 9) = true then (
    some (true, h))
    else (
    some ((a0 == 10), h))).bind fun (b1, h2) =>
    (if b1 = true then (
    some (0, 0, (0, 0), (ByteArray.mk #[]), 0, 0, .nils, 32, h2))
    else (
    (F55 N (a1_0, a1_1, (a1_2.1, a1_2.2), a1_3, a1_4, a1_5, a1_6, h2)).bind fun (x3, _) =>
    (if (!x3) = true then (
    some (true, h2))
    else (
    (F55 N (a2_0, a2_1, (a2_2.1, a2_2.2), a2_3, a2_4, a2_5, a2_6, h2)).bind fun (x6, _) =>
    some ((!x6), h2))).bind fun (b4, h5) =>
    (if b4 = true then (
    some (0, 0, (0, 0), (ByteArray.mk #[]), 0, 0, .nils, 31, h5))
    else (
    (F56 N (a1_0, a1_1, (a1_2.1, a1_2.2), a1_3, a1_4, a1_5, a1_6, h5)).bind fun (x7, x8, _) =>
    (F56 N (a2_0, a2_1, (a2_2.1, a2_2.2), a2_3, a2_4, a2_5, a2_6, h5)).bind fun (x9, x10, _) =>
    (if (a0 == 6) = true then (
    (F57 N ((IntKind.i64.wrap (x7 + x9)), (IntKind.i64.wrap (x8 + x10)), h5)).bind fun (x11, x12, x13, x14, x15, x16, x17, x18, _) =>
    some (x11, x12, (x13.1, x13.2), x14, x15, x16, x17, x18, h5))
    else (
    (if (a0 == 7) = true then (
    (F57 N ((IntKind.i64.wrap (x7 - x9)), (IntKind.i64.wrap (x8 - x10)), h5)).bind fun (x19, x20, x21, x22, x23, x24, x25, x26, _) =>
    some (x19, x20, (x21.1, x21.2), x22, x23, x24, x25, x26, h5))
    else (
    (F57 N ((IntKind.i64.wrap ((IntKind.i64.wrap (x7 * x9)) - (IntKind.i64.wrap (x8 * x10)))), (IntKind.i64.wrap ((IntKind.i64.wrap (x7 * x10)) + (IntKind.i64.wrap (x8 * x9)))), h5)).bind fun (x27, x28, x29, x30, x31, x32, x33, x34, _) =>
    some (x27, x28, (x29.1, x29.2), x30, x31, x32, x33, x34, h5)))))))))
abbrev ks35 : List SK := [.one (.int .i64), .agg [(.int .i64), (.int .i64), (.cplx .f64), .str, (.int .i64), (.int .i64), .ref], .agg [(.int .i64), (.int .i64), (.cplx .f64), .str, (.int .i64), (.int .i64), .ref]]
abbrev rs35 : List SK := [.agg [(.int .i64), (.int .i64), (.cplx .f64), .str, (.int .i64), (.int .i64), .ref], .one (.int .i64)]
noncomputable def e35 (N : Nat) : Env := ⟨Try.prog, 78, inTab [4, 5, 6], inTab [], natTab [(4, 4), (5, 5), (6, 6)], inTab [], calTab [(55, .ro (mkFun ks55 rs55 (F55 N))), (56, .ro (mkFun ks56 rs56 (F56 N))), (57, .ro (mkFun ks57 rs57 (F57 N)))], altTab [], loopTab [], natTab []⟩
theorem fine35 (N : Nat) : Fine (e35 N) N 35 Try.f35 ks35 rs35 (F35 N) :=
  ⟨Try.func35, by kernel_rfl, by kernel_rfl, by kernel_rfl, loops_of trivial, by kernel_rfl, by kernel_rfl, fun _ => by kernel_rfl⟩
theorem good35 (N : Nat) : Go.L.Good (e35 N) := good_of ⟨gd55 N, ⟨gd56 N, ⟨gd57 N, trivial⟩⟩⟩
theorem gd35 (N : Nat) : CalOk Try.prog 35 (.ro (mkFun ks35 rs35 (F35 N))) := mkFun_ro (fine35 N) (good35 N) (by kernel_rfl)

/-! ### 7: carouselref03.Binary -/
noncomputable def F7 (N : Nat) : Int × Int × Int × (Nat × Nat) × ByteArray × Int × Int × V × Int × Int × (Nat × Nat) × ByteArray × Int × Int × V × H → Option (Int × Int × (Nat × Nat) × ByteArray × Int × Int × V × Int × H)
  | (a0, a1_0, a1_1, a1_2, a1_3, a1_4, a1_5, a1_6, a2_0, a2_1, a2_2, a2_3, a2_4, a2_5, a2_6, h) =>
    (F26 100 (a0, [])).bind fun (x1, _) =>
    (if (!x1) = true then (
    some (0, 0, (0, 0), (ByteArray.mk #[]), 0, 0, .nils, 1, h))
    else (
    (F27 N (a1_0, a1_1, (a1_2.1, a1_2.2), a1_3, a1_4, a1_5, a1_6, h)).bind fun (x2, _) =>
    ((if (x2 == 0) = true then (
    (F27 N (a2_0, a2_1, (a2_2.1, a2_2.2), a2_3, a2_4, a2_5, a2_6, h)).bind fun (x3, _) =>
    some (a0, x3, a1_0, a1_1, (a1_2.1, a1_2.2), a1_3, a1_4, a1_5, a1_6, a2_0, a2_1, (a2_2.1, a2_2.2), a2_3, a2_4, a2_5, a2_6, 0, 0, (0, 0), (ByteArray.mk #[]), 0, 0, .nils, h))
    else (
    some (a0, x2, a1_0, a1_1, (a1_2.1, a1_2.2), a1_3, a1_4, a1_5, a1_6, a2_0, a2_1, (a2_2.1, a2_2.2), a2_3, a2_4, a2_5, a2_6, 0, 0, (0, 0), (ByteArray.mk #[]), 0, 0, .nils, h))) : Option (Int × Int × Int × Int × (Nat × Nat) × ByteArray × Int × Int × V × Int × Int × (Nat × Nat) × ByteArray × Int × Int × V × Int × Int × (Nat × Nat) × ByteArray × Int × Int × V × H)).bind fun (x4, x5, x6, x7, x8, x9, x10, x11, x12, x13, x14, x15, x16, x17, x18, x19, x20, x21, x22, x23, x24, x25, x26, h27) =>
    (if (x5 != 0) = true then (
    some (0, 0, (0, 0), (ByteArray.mk #[]), 0, 0, .nils, x5, h27))
    else (
    (if (x4 == 14) = true then (
    (F29 N N (x6, x7, (x8.1, x8.2), x9, x10, x11, x12, x13, x14, (x15.1, x15.2), x16, x17, x18, x19, h27)).bind fun (x28, _) =>
    (F28 N ((x28 == 0), h27)).bind fun (x29, x30, x31, x32, x33, x34, x35, _) =>
    some (x29, x30, (x31.1, x31.2), x32, x33, x34, x35, 0, h27))
    else (
    (if (x4 == 15) = true then (
    (F29 N N (x6, x7, (x8.1, x8.2), x9, x10, x11, x12, x13, x14, (x15.1, x15.2), x16, x17, x18, x19, h27)).bind fun (x36, _) =>
    (F28 N ((decide (x36 < 0)), h27)).bind fun (x37, x38, x39, x40, x41, x42, x43, _) =>
    some (x37, x38, (x39.1, x39.2), x40, x41, x42, x43, 0, h27))
    else (
    (if (x4 == 13) = true then (
    (F30 N (x6, x7, (x8.1, x8.2), x9, x10, x11, x12, h27)).bind fun (x46, _) =>
    some (x46, h27))
    else (
    some (false, h27))).bind fun (b44, h45) =>
    (if b44 = true then (
    some ((x13 == 3), h45))
    else (
    some (false, h45))).bind fun (b47, h48) =>
    (if b47 = true then (
    (F31 N (x6, x7, (x8.1, x8.2), x9, x10, x11, x12, x14, h48)).bind fun (x49, x50, x51, x52, x53, x54, x55, x56, _) =>
    some (x49, x50, (x51.1, x51.2), x52, x53, x54, x55, x56, h48))
    else (
    (if (x4 == 20) = true then (
    (F32 N (x6, x7, (x8.1, x8.2), x9, x10, x11, x12, h48)).bind fun (x59, _) =>
    some (x59, h48))
    else (
    some (false, h48))).bind fun (b57, h58) =>
    (if b57 = true then (
    some ((x13 == 3), h58))
    else (
    some (false, h58))).bind fun (b60, h61) =>
    (if b60 = true then (
    (if (decide (x14 < 0)) = true then (
    some (true, h61))
    else (
    (slen x12).bind fun n64 =>
    some ((decide (x14 ≥ n64)), h61))).bind fun (b62, h63) =>
    (if b62 = true then (
    some (0, 0, (0, 0), (ByteArray.mk #[]), 0, 0, .nils, 31, h63))
    else (
    (sidx x12 x14 7).bind fun q65 =>
    (L.asInt .i64 (rd h63 q65 0)).bind fun x66 =>
    (L.asInt .i64 (rd h63 q65 1)).bind fun x67 =>
    (L.asCplx .f64 (rd h63 q65 2)).bind fun x68 =>
    (L.asStr (rd h63 q65 3)).bind fun x69 =>
    (L.asInt .i64 (rd h63 q65 4)).bind fun x70 =>
    (L.asInt .i64 (rd h63 q65 5)).bind fun x71 =>
    ((rd h63 q65 6)).bind fun x72 =>
    some (x66, x67, (x68.1, x68.2), x69, x70, x71, x72, 0, h63))))
    else (
    (if (x4 == 22) = true then (
    some ((x13 == 9), h61))
    else (
    some (false, h61))).bind fun (b73, h74) =>
    (if b73 = true then (
    (some (h74 ++ [O.cells 0 [(.int .i64 x6), (.int .i64 x7), (.cplx .f64 x8.1 x8.2), (.str x9), (.int .i64 x10), (.int .i64 x11), x12]]) : Option H).bind fun h75 =>
    (scells h75 x19 7).bind fun cs78 =>
    (happ h75 (.sl (h74).length 0 0 1 7 (some 1)) 7 (snlen x19) cs78).bind fun (v76, h77) =>
    (F33 N (9, v76, h77)).bind fun (x79, x80, x81, x82, x83, x84, x85, x86, h87) =>
    some (x79, x80, (x81.1, x81.2), x82, x83, x84, x85, x86, h87))
    else (
    (if (decide (x4 ≥ 6)) = true then (
    some ((decide (x4 ≤ 10)), h74))
    else (
    some (false, h74))).bind fun (b88, h89) =>
    (if b88 = true then (
    some ((x6 == 3), h89))
    else (
    some (false, h89))).bind fun (b90, h91) =>
    (if b90 = true then (
    some ((x13 == 3), h91))
    else (
    some (false, h91))).bind fun (b92, h93) =>
    (if b92 = true then (
    (F34 N (x4, x7, x14, h93)).bind fun (x94, x95, x96, x97, x98, x99, x100, x101, _) =>
    some (x94, x95, (x96.1, x96.2), x97, x98, x99, x100, x101, h93))
    else (
    (if (decide (x4 ≥ 6)) = true then (
    some ((decide (x4 ≤ 10)), h93))
    else (
    some (false, h93))).bind fun (b102, h103) =>
    (if b102 = true then (
    (F30 N (x6, x7, (x8.1, x8.2), x9, x10, x11, x12, h103)).bind fun (x106, _) =>
    some (x106, h103))
    else (
    some (false, h103))).bind fun (b104, h105) =>
    (if b104 = true then (
    (F30 N (x13, x14, (x15.1, x15.2), x16, x17, x18, x19, h105)).bind fun (x109, _) =>
    some (x109, h105))
    else (
    some (false, h105))).bind fun (b107, h108) =>
    (if b107 = true then (
    (F35 N (x4, x6, x7, (x8.1, x8.2), x9, x10, x11, x12, x13, x14, (x15.1, x15.2), x16, x17, x18, x19, h108)).bind fun (x110, x111, x112, x113, x114, x115, x116, x117, _) =>
    some (x110, x111, (x112.1, x112.2), x113, x114, x115, x116, x117, h108))
    else (
    some (0, 0, (0, 0), (ByteArray.mk #[]), 0, 0, .nils, 32, h108)))))))))))))))))))
abbrev ks7 : List SK := [.one (.int .i64), .agg [(.int .i64), (.int .i64), (.cplx .f64), .str, (.int .i64), (.int .i64), .ref], .agg [(.int .i64), (.int .i64), (.cplx .f64), .str, (.int .i64), (.int .i64), .ref]]
abbrev rs7 : List SK := [.agg [(.int .i64), (.int .i64), (.cplx .f64), .str, (.int .i64), (.int .i64), .ref], .one (.int .i64)]
noncomputable def e7 (N : Nat) : Env := ⟨Try.prog, 153, inTab [4, 5, 6], inTab [], natTab [(4, 4), (5, 5), (6, 6), (48, 5), (53, 5), (66, 5), (70, 5), (74, 5), (76, 4), (82, 4), (84, 5), (92, 5), (99, 5), (114, 4), (119, 5), (124, 4), (126, 5)], inTab [], calTab [(26, .pure (mkP ks26 rs26 (F26 100))), (27, .ro (mkFun ks27 rs27 (F27 N))), (29, .ro (mkFun ks29 rs29 (F29 N N))), (28, .ro (mkFun ks28 rs28 (F28 N))), (30, .ro (mkFun ks30 rs30 (F30 N))), (31, .ro (mkFun ks31 rs31 (F31 N))), (32, .ro (mkFun ks32 rs32 (F32 N))), (33, .full (mkFun ks33 rs33 (F33 N))), (34, .ro (mkFun ks34 rs34 (F34 N))), (35, .ro (mkFun ks35 rs35 (F35 N)))], altTab [(327697, [⟨.normal, [0, 4, 5, 6, 8], [.one (.int .i64), .lp 4 0, .lp 5 0, .lp 6 0, .one (.int .i64)], [4, 5, 6], [.cells [(.int .i64), (.int .i64), (.cplx .f64), .str, (.int .i64), (.int .i64), .ref], .cells [(.int .i64), (.int .i64), (.cplx .f64), .str, (.int .i64), (.int .i64), .ref], .cells [(.int .i64), (.int .i64), (.cplx .f64), .str, (.int .i64), (.int .i64), .ref]]⟩])], loopTab [], natTab []⟩
theorem fine7 (N : Nat) : Fine (e7 N) N 7 Try.f7 ks7 rs7 (F7 N) :=
  ⟨Try.func7, by kernel_rfl, by kernel_rfl, by kernel_rfl, loops_of trivial, by kernel_rfl, by kernel_rfl, fun _ => by kernel_rfl⟩
theorem good7 (N : Nat) : Go.L.Good (e7 N) := good_of ⟨gd26, ⟨gd27 N, ⟨gd29 N N, ⟨gd28 N, ⟨gd30 N, ⟨gd31 N, ⟨gd32 N, ⟨gd33 N, ⟨gd34 N, ⟨gd35 N, trivial⟩⟩⟩⟩⟩⟩⟩⟩⟩⟩
theorem gd7 (N : Nat) : CalOk Try.prog 7 (.full (mkFun ks7 rs7 (F7 N))) := mkFun_good (fine7 N) (good7 N)

/-! ### 36: term.Complex -/
noncomputable def F36 (N : Nat) : Int × Int × H → Option (Int × Int × (Nat × Nat) × ByteArray × Int × Int × V × Int × H)
  | (a0, a1, h) =>
    (F51 N (a0, a1, h)).bind fun (x1, x2, x3, x4, x5, x6, x7, x8, _) =>
    some (x1, x2, (x3.1, x3.2), x4, x5, x6, x7, x8, h)
abbrev ks36 : List SK := [.one (.int .i64), .one (.int .i64)]
abbrev rs36 : List SK := [.agg [(.int .i64), (.int .i64), (.cplx .f64), .str, (.int .i64), (.int .i64), .ref], .one (.int .i64)]
noncomputable def e36 (N : Nat) : Env := ⟨Try.prog, 11, inTab [4], inTab [], natTab [(4, 4)], inTab [], calTab [(51, .ro (mkFun ks51 rs51 (F51 N)))], altTab [], loopTab [], natTab []⟩
theorem fine36 (N : Nat) : Fine (e36 N) N 36 Try.f36 ks36 rs36 (F36 N) :=
  ⟨Try.func36, by kernel_rfl, by kernel_rfl, by kernel_rfl, loops_of trivial, by kernel_rfl, by kernel_rfl, fun _ => by kernel_rfl⟩
theorem good36 (N : Nat) : Go.L.Good (e36 N) := good_of ⟨gd51 N, trivial⟩
theorem gd36 (N : Nat) : CalOk Try.prog 36 (.ro (mkFun ks36 rs36 (F36 N))) := mkFun_ro (fine36 N) (good36 N) (by kernel_rfl)

/-! ### 37: term.Compare -/
noncomputable def F37 (N : Nat) : Int × Int × (Nat × Nat) × ByteArray × Int × Int × V × Int × Int × (Nat × Nat) × ByteArray × Int × Int × V × H → Option (Int × Int × H)
  | (a0_0, a0_1, a0_2, a0_3, a0_4, a0_5, a0_6, a1_0, a1_1, a1_2, a1_3, a1_4, a1_5, a1_6, h) =>
    (F18 N (a0_0, a0_1, (a0_2.1, a0_2.2), a0_3, a0_4, a0_5, a0_6, a1_0, a1_1, (a1_2.1, a1_2.2), a1_3, a1_4, a1_5, a1_6, h)).bind fun (x1, h2) =>
    (if (x1 != 0) = true then (
    some (0, x1, h2))
    else (
    (F20 N N (a0_0, a0_1, (a0_2.1, a0_2.2), a0_3, a0_4, a0_5, a0_6, a1_0, a1_1, (a1_2.1, a1_2.2), a1_3, a1_4, a1_5, a1_6, h2)).bind fun (x3, _) =>
    some (x3, 0, h2)))
abbrev ks37 : List SK := [.agg [(.int .i64), (.int .i64), (.cplx .f64), .str, (.int .i64), (.int .i64), .ref], .agg [(.int .i64), (.int .i64), (.cplx .f64), .str, (.int .i64), (.int .i64), .ref]]
abbrev rs37 : List SK := [.one (.int .i64), .one (.int .i64)]
noncomputable def e37 (N : Nat) : Env := ⟨Try.prog, 16, inTab [2, 3], inTab [], natTab [(2, 2), (3, 3)], inTab [], calTab [(18, .full (mkFun ks18 rs18 (F18 N))), (20, .ro (mkFun ks20 rs20 (F20 N N)))], altTab [], loopTab [], natTab []⟩
theorem fine37 (N : Nat) : Fine (e37 N) N 37 Try.f37 ks37 rs37 (F37 N) :=
  ⟨Try.func37, by kernel_rfl, by kernel_rfl, by kernel_rfl, loops_of trivial, by kernel_rfl, by kernel_rfl, fun _ => by kernel_rfl⟩
theorem good37 (N : Nat) : Go.L.Good (e37 N) := good_of ⟨gd18 N, ⟨gd20 N N, trivial⟩⟩
theorem gd37 (N : Nat) : CalOk Try.prog 37 (.full (mkFun ks37 rs37 (F37 N))) := mkFun_good (fine37 N) (good37 N)

/-! ### 8: carousellaw03.awake -/
noncomputable def F8 (N : Nat) : H → Option (Bool × H)
  | h =>
    (F36 N (1, 2, h)).bind fun (x1, x2, x3, x4, x5, x6, x7, x8, _) =>
    (F36 N (3, 4, h)).bind fun (x9, x10, x11, x12, x13, x14, x15, x16, _) =>
    (F6 N (8, x1, x2, (x3.1, x3.2), x4, x5, x6, x7, x9, x10, (x11.1, x11.2), x12, x13, x14, x15, h)).bind fun (x17, x18, x19, x20, x21, x22, x23, x24, h25) =>
    (F37 N (x1, x2, (x3.1, x3.2), x4, x5, x6, x7, x9, x10, (x11.1, x11.2), x12, x13, x14, x15, h25)).bind fun (x26, x27, h28) =>
    (if (x8 == 0) = true then (
    some ((x16 == 0), h28))
    else (
    some (false, h28))).bind fun (b29, h30) =>
    (if b29 = true then (
    some ((x24 == 0), h30))
    else (
    some (false, h30))).bind fun (b31, h32) =>
    (if b31 = true then (
    some ((x27 == 0), h32))
    else (
    some (false, h32))).bind fun (b33, h34) =>
    (if b33 = true then (
    some ((Op.floatEq .f64 x19.1 13840687554816376832 && Op.floatEq .f64 x19.2 4621819117588971520), h34))
    else (
    some (false, h34))).bind fun (b35, h36) =>
    (if b35 = true then (
    some ((x26 == (-1)), h36))
    else (
    some (false, h36))).bind fun (b37, h38) =>
    some (b37, h38)
abbrev ks8 : List SK := []
abbrev rs8 : List SK := [.one .bool]
noncomputable def e8 (N : Nat) : Env := ⟨Try.prog, 52, inTab [1, 3, 5], inTab [], natTab [(1, 1), (3, 3), (5, 5), (44, 5)], inTab [], calTab [(36, .ro (mkFun ks36 rs36 (F36 N))), (6, .full (mkFun ks6 rs6 (F6 N))), (37, .full (mkFun ks37 rs37 (F37 N)))], altTab [], loopTab [], natTab []⟩
theorem lk8 (N : Nat) (g0 : Int × Int × H → Option (Int × Int × (Nat × Nat) × ByteArray × Int × Int × V × Int × H)) (g1 : Int × Int × Int × (Nat × Nat) × ByteArray × Int × Int × V × Int × Int × (Nat × Nat) × ByteArray × Int × Int × V × H → Option (Int × Int × (Nat × Nat) × ByteArray × Int × Int × V × Int × H)) (g2 : Int × Int × (Nat × Nat) × ByteArray × Int × Int × V × Int × Int × (Nat × Nat) × ByteArray × Int × Int × V × H → Option (Int × Int × H)) (h : H) :
    ((g0 (1, 2, h)).bind fun (x1, x2, x3, x4, x5, x6, x7, x8, _) =>
(g0 (3, 4, h)).bind fun (x9, x10, x11, x12, x13, x14, x15, x16, _) =>
(g1 (8, x1, x2, (x3.1, x3.2), x4, x5, x6, x7, x9, x10, (x11.1, x11.2), x12, x13, x14, x15, h)).bind fun (x17, x18, x19, x20, x21, x22, x23, x24, h25) =>
(g2 (x1, x2, (x3.1, x3.2), x4, x5, x6, x7, x9, x10, (x11.1, x11.2), x12, x13, x14, x15, h25)).bind fun (x26, x27, h28) =>
(if (x8 == 0) = true then (
some ((x16 == 0), h28))
else (
some (false, h28))).bind fun (b29, h30) =>
(if b29 = true then (
some ((x24 == 0), h30))
else (
some (false, h30))).bind fun (b31, h32) =>
(if b31 = true then (
some ((x27 == 0), h32))
else (
some (false, h32))).bind fun (b33, h34) =>
(if b33 = true then (
some ((Op.floatEq .f64 x19.1 13840687554816376832 && Op.floatEq .f64 x19.2 4621819117588971520), h34))
else (
some (false, h34))).bind fun (b35, h36) =>
(if b35 = true then (
some ((x26 == (-1)), h36))
else (
some (false, h36))).bind fun (b37, h38) =>
some (b37, h38)) = evFT ⟨Try.prog, 52, inTab [1, 3, 5], inTab [], natTab [(1, 1), (3, 3), (5, 5), (44, 5)], inTab [], calTab [(36, .ro (mkFun ks36 rs36 (g0))), (6, .full (mkFun ks6 rs6 (g1))), (37, .full (mkFun ks37 rs37 (g2)))], altTab [], loopTab [], natTab []⟩ N Try.f8 ks8 rs8 h := by kernel_rfl
theorem fine8 (N : Nat) : Fine (e8 N) N 8 Try.f8 ks8 rs8 (F8 N) :=
  ⟨Try.func8, by kernel_rfl, by kernel_rfl, by kernel_rfl, loops_of trivial, by kernel_rfl, by kernel_rfl, fun h => lk8 N (F36 N) (F6 N) (F37 N) h⟩
theorem good8 (N : Nat) : Go.L.Good (e8 N) := good_of ⟨gd36 N, ⟨gd6 N, ⟨gd37 N, trivial⟩⟩⟩
theorem gd8 : CalOk Try.prog 8 (.pure (mkP ks8 rs8 (F8 100))) := mkP_good (fine8 100) (good8 100) (by kernel_rfl) (by kernel_rfl)

/-! ### 3: carousellaw03.TermDivides -/
noncomputable def F3 (N : Nat) : Int × Int × H → Option (Bool × H)
  | (a0, a1, h) =>
    (F5 N (a0, h)).bind fun (x1, x2, x3, x4, x5, x6, x7, _) =>
    (F5 N (a1, h)).bind fun (x8, x9, x10, x11, x12, x13, x14, _) =>
    (F6 N (9, x1, x2, (x3.1, x3.2), x4, x5, x6, x7, x8, x9, (x10.1, x10.2), x11, x12, x13, x14, h)).bind fun (x15, x16, x17, x18, x19, x20, x21, x22, h23) =>
    (F6 N (10, x1, x2, (x3.1, x3.2), x4, x5, x6, x7, x8, x9, (x10.1, x10.2), x11, x12, x13, x14, h23)).bind fun (x24, x25, x26, x27, x28, x29, x30, x31, h32) =>
    (if (x22 != 0) = true then (
    some (true, h32))
    else (
    some ((x31 != 0), h32))).bind fun (b33, h34) =>
    (if b33 = true then (
    (F7 N (9, x1, x2, (x3.1, x3.2), x4, x5, x6, x7, x8, x9, (x10.1, x10.2), x11, x12, x13, x14, h34)).bind fun (x35, x36, x37, x38, x39, x40, x41, x42, h43) =>
    (if (x22 == x31) = true then (
    some ((x22 == x42), h43))
    else (
    some (false, h43))).bind fun (b44, h45) =>
    (if b44 = true then (
    (F8 100 []).bind fun (x48, _) =>
    some (x48, h45))
    else (
    some (false, h45))).bind fun (b46, h47) =>
    some (b46, h47))
    else (
    (if ((IntKind.i64.wrap ((IntKind.i64.wrap (x16 * a1)) + x25)) != a0) = true then (
    some (true, h34))
    else (
    (if (x25 != 0) = true then (
    some ((!((decide (x25 < 0)) == (decide (a0 < 0)))), h34))
    else (
    some (false, h34))).bind fun (b51, h52) =>
    some (b51, h52))).bind fun (b49, h50) =>
    (if b49 = true then (
    some (false, h50))
    else (
    (if (decide (x25 < a1)) = true then (
    some (true, h50))
    else (
    some ((decide (a1 < 0)), h50))).bind fun (b53, h54) =>
    (if b53 = true then (
    (if (decide (x25 < (IntKind.i64.wrap (0 - a1)))) = true then (
    some (true, h54))
    else (
    some ((decide (a1 > 0)), h54))).bind fun (b57, h58) =>
    some (b57, h58))
    else (
    some (false, h54))).bind fun (b55, h56) =>
    (if b55 = true then (
    (if (decide (x25 > (IntKind.i64.wrap (0 - a1)))) = true then (
    some (true, h56))
    else (
    some ((decide (a1 < 0)), h56))).bind fun (b61, h62) =>
    some (b61, h62))
    else (
    some (false, h56))).bind fun (b59, h60) =>
    (if b59 = true then (
    (if (decide (x25 > a1)) = true then (
    some (true, h60))
    else (
    some ((decide (a1 > 0)), h60))).bind fun (b65, h66) =>
    some (b65, h66))
    else (
    some (false, h60))).bind fun (b63, h64) =>
    (if b63 = true then (
    (F8 100 []).bind fun (x69, _) =>
    some (x69, h64))
    else (
    some (false, h64))).bind fun (b67, h68) =>
    some (b67, h68)))))
abbrev ks3 : List SK := [.one (.int .i64), .one (.int .i64)]
abbrev rs3 : List SK := [.one .bool]
noncomputable def e3 (N : Nat) : Env := ⟨Try.prog, 117, inTab [5, 6, 7, 9, 11], inTab [], natTab [(5, 5), (6, 6), (7, 7), (9, 9), (11, 11), (52, 7), (56, 9), (62, 9), (66, 9), (74, 9), (83, 9), (94, 9), (105, 9)], inTab [], calTab [(5, .ro (mkFun ks5 rs5 (F5 N))), (6, .full (mkFun ks6 rs6 (F6 N))), (7, .full (mkFun ks7 rs7 (F7 N))), (8, .pure (mkP ks8 rs8 (F8 100)))], altTab [], loopTab [], natTab []⟩
theorem fine3 (N : Nat) : Fine (e3 N) N 3 Try.f3 ks3 rs3 (F3 N) :=
  ⟨Try.func3, by kernel_rfl, by kernel_rfl, by kernel_rfl, loops_of trivial, by kernel_rfl, by kernel_rfl, fun _ => by kernel_rfl⟩
theorem good3 (N : Nat) : Go.L.Good (e3 N) := good_of ⟨gd5 N, ⟨gd6 N, ⟨gd7 N, ⟨gd8, trivial⟩⟩⟩⟩
theorem gd3 (N : Nat) : CalOk Try.prog 3 (.full (mkFun ks3 rs3 (F3 N))) := mkFun_good (fine3 N) (good3 N)

end Go.Proofs.Ytkhnngghmlpbeaa
