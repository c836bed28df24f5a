/- The functions that the laws reach, as plain ones (printed by gen.py). -/
import Derived.Test.YtbpibiapjangmaaL32
import Derived.Test.YtbpibiapjangmaaChecked
import Derived.KernelRfl
set_option linter.unusedVariables false
namespace Go.Proofs.Ytbpibiapjangmaa
open Go.L

/-! ### 23: table.New -/
noncomputable def F23 (N : Nat) : Int × H → Option (V × Int × H)
  | (a0, h) =>
    (if (decide (a0 < 1)) = true then (
    some (true, h))
    else (
    some ((decide (a0 > 256)), h))).bind fun (b1, h2) =>
    (if b1 = true then (
    some (.nilp, 1, h2))
    else (
    (if 0 ≤ a0 then (if a0 ≤ a0 then (if a0 * ((3 : Nat) : Int) ≤ ((mostCells : Nat) : Int) then (
    (some (h2 ++ [O.cells 0 (repeatC (Int.toNat a0) [(.int .i64 0), (.bool false), (.str (ByteArray.mk #[]))])]) : Option H).bind fun h3 =>
    (some (h3 ++ [O.map []]) : Option H).bind fun h4 =>
    (ck1 (.sl (h2).length 0 0 (Int.toNat a0) 3 (some (Int.toNat a0)))).bind fun _ =>
    (ck1 (.map (h3).length)).bind fun _ =>
    (some (h4 ++ [O.cells 0 [(.sl (h2).length 0 0 (Int.toNat a0) 3 (some (Int.toNat a0))), (.map (h3).length)]]) : Option H).bind fun h5 =>
    some ((.ptr (h4).length 0 0), 0, h5)) else none) else none) else none)))
abbrev ks23 : List SK := [.one (.int .i64)]
abbrev rs23 : List SK := [.one .ref, .one (.int .i64)]
noncomputable def e23 (N : Nat) : Env := ⟨Try.prog, 15, inTab [], inTab [], natTab [], inTab [], calTab [], altTab [], loopTab [], natTab []⟩
theorem fine23 (N : Nat) : Fine (e23 N) N 23 Try.f23 ks23 rs23 (F23 N) :=
  ⟨Try.func23, by kernel_rfl, by kernel_rfl, by kernel_rfl, loops_of trivial, by kernel_rfl, by kernel_rfl, fun _ => by kernel_rfl⟩
theorem good23 (N : Nat) : Go.L.Good (e23 N) := good_of trivial
theorem gd23 (N : Nat) : CalOk Try.prog 23 (.full (mkFun ks23 rs23 (F23 N))) := mkFun_good (fine23 N) (good23 N)

/-! ### 62: table.Table).given -/
noncomputable def F62 (N : Nat) : V × H → Option (Bool × H)
  | (a0, h) =>
    (isNil a0).bind fun b1 =>
    (if (!b1) = true then (
    (nck a0).bind fun _ =>
    ((rd h (padd a0 0) 0)).bind fun x4 =>
    (slen x4).bind fun n5 =>
    some ((decide (n5 > 0)), h))
    else (
    some (false, h))).bind fun (b2, h3) =>
    some (b2, h3)
abbrev ks62 : List SK := [.one .ref]
abbrev rs62 : List SK := [.one .bool]
noncomputable def e62 (N : Nat) : Env := ⟨Try.prog, 13, inTab [], inTab [], natTab [], inTab [], calTab [], altTab [], loopTab [], natTab []⟩
theorem fine62 (N : Nat) : Fine (e62 N) N 62 Try.f62 ks62 rs62 (F62 N) :=
  ⟨Try.func62, by kernel_rfl, by kernel_rfl, by kernel_rfl, loops_of trivial, by kernel_rfl, by kernel_rfl, fun _ => by kernel_rfl⟩
theorem good62 (N : Nat) : Go.L.Good (e62 N) := good_of trivial
theorem gd62 (N : Nat) : CalOk Try.prog 62 (.ro (mkFun ks62 rs62 (F62 N))) := mkFun_ro (fine62 N) (good62 N) (by kernel_rfl)

/-! ### 63: table.Table).pid -/
noncomputable def F63 (N : Nat) : V × Int × H → Option (Int × Int × H)
  | (a0, a1, h) =>
    (nck a0).bind fun _ =>
    ((rd h (padd a0 0) 0)).bind fun x1 =>
    (sidx x1 a1 3).bind fun q2 =>
    (L.asInt .i64 (rd h (padd q2 0) 0)).bind fun x3 =>
    some (a1, x3, h)
abbrev ks63 : List SK := [.one .ref, .one (.int .i64)]
abbrev rs63 : List SK := [.agg [(.int .i64), (.int .i64)]]
noncomputable def e63 (N : Nat) : Env := ⟨Try.prog, 15, inTab [4], inTab [], natTab [(4, 4)], inTab [], calTab [], altTab [], loopTab [], natTab []⟩
theorem fine63 (N : Nat) : Fine (e63 N) N 63 Try.f63 ks63 rs63 (F63 N) :=
  ⟨Try.func63, by kernel_rfl, by kernel_rfl, by kernel_rfl, loops_of trivial, by kernel_rfl, by kernel_rfl, fun _ => by kernel_rfl⟩
theorem good63 (N : Nat) : Go.L.Good (e63 N) := good_of trivial
theorem gd63 (N : Nat) : CalOk Try.prog 63 (.ro (mkFun ks63 rs63 (F63 N))) := mkFun_ro (fine63 N) (good63 N) (by kernel_rfl)

/-! ### 24: table.Table).Add -/
noncomputable def L24_0 (N : Nat) : Nat → V × Int × Int × Int × Int × H → Option ((Int × Int × H) ⊕ (Int × Int × Int × H))
  | 0, _ => none
  | n + 1, (x21, x22, x23, x24, x25, h26) =>
    (if (decide (x23 < x22)) = true then (
    (nck x21).bind fun _ =>
    ((rd h26 (padd x21 0) 0)).bind fun x27 =>
    (sidx x27 x23 3).bind fun q28 =>
    (L.asBool (rd h26 (padd q28 1) 0)).bind fun x29 =>
    (if (!x29) = true then (
    (L.asInt .i64 (rd h26 (padd q28 0) 0)).bind fun x32 =>
    some ((decide (x32 < 4611686018427387903)), h26))
    else (
    some (false, h26))).bind fun (b30, h31) =>
    (if b30 = true then (
    (wr h31 (padd q28 1) [(.bool true)]).bind fun h33 =>
    (L.asInt .i64 (rd h33 (padd q28 0) 0)).bind fun x34 =>
    (wr h33 (padd q28 0) [(.int .i64 (IntKind.i64.wrap (x34 + 1)))]).bind fun h35 =>
    (F63 N (x21, x23, h35)).bind fun (x36, x37, _) =>
    some (.inr (0, x36, x37, h35)))
    else (
    L24_0 N n (x21, x22, (IntKind.i64.wrap (x23 + 1)), x24, x25, h31))))
    else (
    some (.inl (x24, x25, h26))))
noncomputable def F24 (N : Nat) : V × H → Option (Int × Int × Int × H)
  | (a0, h) =>
    (F62 N (a0, h)).bind fun (x1, _) =>
    (if (!x1) = true then (
    some (0, 0, 1, h))
    else (
    (nck a0).bind fun _ =>
    ((rd h (padd a0 0) 0)).bind fun x2 =>
    (slen x2).bind fun n3 =>
    (L24_0 N N (a0, n3, 0, 0, 0, h)).bind fun o38 => match o38 with
    | .inl (x39, x40, h41) => (
    some (0, 0, 140, h41))
    | .inr (x42, x43, x44, h45) => (
    some (x43, x44, x42, h45))))
abbrev ks24 : List SK := [.one .ref]
abbrev rs24 : List SK := [.agg [(.int .i64), (.int .i64)], .one (.int .i64)]
noncomputable def e24 (N : Nat) : Env := ⟨Try.prog, 51, inTab [2], inTab [], natTab [(2, 2)], inTab [], calTab [(62, .ro (mkFun ks62 rs62 (F62 N))), (63, .ro (mkFun ks63 rs63 (F63 N)))], altTab [], loopTab [(4, ⟨⟨.normal, [0, 2, 14, 15], [.one .ref, .lp 2 0, .one (.int .i64), .one (.int .i64)], [2], [.cells [(.int .i64), (.int .i64)]]⟩, [⟨(.exit 0), [2], [.lp 2 0], [2], [.cells [(.int .i64), (.int .i64)]]⟩, ⟨.ret, [2, 3], [.lp 2 0, .one (.int .i64)], [2], [.cells [(.int .i64), (.int .i64)]]⟩], L24_0 N⟩)], natTab []⟩
theorem l24_0 (N : Nat) : ∀ A, (e24 N).lp (lid (loopAt Try.f24 0)) = some A → LoopOk (e24 N) N (loopAt Try.f24 0) A :=
  loopOk_of (A := ⟨⟨.normal, [0, 2, 14, 15], [.one .ref, .lp 2 0, .one (.int .i64), .one (.int .i64)], [2], [.cells [(.int .i64), (.int .i64)]]⟩, [⟨(.exit 0), [2], [.lp 2 0], [2], [.cells [(.int .i64), (.int .i64)]]⟩, ⟨.ret, [2, 3], [.lp 2 0, .one (.int .i64)], [2], [.cells [(.int .i64), (.int .i64)]]⟩], L24_0 N⟩) (by kernel_rfl) (fun _ => rfl) (fun _ _ => by kernel_rfl)
theorem fine24 (N : Nat) : Fine (e24 N) N 24 Try.f24 ks24 rs24 (F24 N) :=
  ⟨Try.func24, by kernel_rfl, by kernel_rfl, by kernel_rfl, loops_of ⟨l24_0 N, trivial⟩, by kernel_rfl, by kernel_rfl, fun _ => by kernel_rfl⟩
theorem good24 (N : Nat) : Go.L.Good (e24 N) := good_of ⟨gd62 N, ⟨gd63 N, trivial⟩⟩
theorem gd24 (N : Nat) : CalOk Try.prog 24 (.full (mkFun ks24 rs24 (F24 N))) := mkFun_good (fine24 N) (good24 N)

/-! ### 27: table.Table).Is -/
noncomputable def F27 (N : Nat) : V × Int × Int × H → Option (Bool × H)
  | (a0, a1_0, a1_1, h) =>
    (F62 N (a0, h)).bind fun (x1, _) =>
    (if x1 = true then (
    some ((decide (a1_0 ≥ 0)), h))
    else (
    some (false, h))).bind fun (b2, h3) =>
    (if b2 = true then (
    (nck a0).bind fun _ =>
    ((rd h3 (padd a0 0) 0)).bind fun x6 =>
    (slen x6).bind fun n7 =>
    some ((decide (a1_0 < n7)), h3))
    else (
    some (false, h3))).bind fun (b4, h5) =>
    (if b4 = true then (
    (nck a0).bind fun _ =>
    ((rd h5 (padd a0 0) 0)).bind fun x10 =>
    (sidx x10 a1_0 3).bind fun q11 =>
    (L.asBool (rd h5 (padd q11 1) 0)).bind fun x12 =>
    some (x12, h5))
    else (
    some (false, h5))).bind fun (b8, h9) =>
    (if b8 = true then (
    (nck a0).bind fun _ =>
    ((rd h9 (padd a0 0) 0)).bind fun x15 =>
    (sidx x15 a1_0 3).bind fun q16 =>
    (L.asInt .i64 (rd h9 (padd q16 0) 0)).bind fun x17 =>
    some ((x17 == a1_1), h9))
    else (
    some (false, h9))).bind fun (b13, h14) =>
    some (b13, h14)
abbrev ks27 : List SK := [.one .ref, .agg [(.int .i64), (.int .i64)]]
abbrev rs27 : List SK := [.one .bool]
noncomputable def e27 (N : Nat) : Env := ⟨Try.prog, 47, inTab [3], inTab [], natTab [(3, 3), (8, 3), (13, 3), (27, 3), (38, 3), (43, 3)], inTab [], calTab [(62, .ro (mkFun ks62 rs62 (F62 N)))], altTab [], loopTab [], natTab []⟩
theorem fine27 (N : Nat) : Fine (e27 N) N 27 Try.f27 ks27 rs27 (F27 N) :=
  ⟨Try.func27, by kernel_rfl, by kernel_rfl, by kernel_rfl, loops_of trivial, by kernel_rfl, by kernel_rfl, fun _ => by kernel_rfl⟩
theorem good27 (N : Nat) : Go.L.Good (e27 N) := good_of ⟨gd62 N, trivial⟩
theorem gd27 (N : Nat) : CalOk Try.prog 27 (.ro (mkFun ks27 rs27 (F27 N))) := mkFun_ro (fine27 N) (good27 N) (by kernel_rfl)

/-! ### 25: table.Table).Free -/
noncomputable def F25 (N : Nat) : V × Int × Int × H → Option (Int × H)
  | (a0, a1_0, a1_1, h) =>
    (F62 N (a0, h)).bind fun (x1, _) =>
    (if (!x1) = true then (
    some (1, h))
    else (
    (F27 N (a0, a1_0, a1_1, h)).bind fun (x2, _) =>
    (if (!x2) = true then (
    some (3, h))
    else (
    (nck a0).bind fun _ =>
    ((rd h (padd a0 0) 0)).bind fun x3 =>
    (sidx x3 a1_0 3).bind fun q4 =>
    (nck a0).bind fun _ =>
    ((rd h (padd a0 1) 0)).bind fun x5 =>
    (L.asStr (rd h (padd q4 2) 0)).bind fun x6 =>
    (hmapdel h x5 (.str x6)).bind fun h7 =>
    (wr h7 (padd q4 1) [(.bool false)]).bind fun h8 =>
    (wr h8 (padd q4 2) [(.str (ByteArray.mk #[]))]).bind fun h9 =>
    some (0, h9)))))
abbrev ks25 : List SK := [.one .ref, .agg [(.int .i64), (.int .i64)]]
abbrev rs25 : List SK := [.one (.int .i64)]
noncomputable def e25 (N : Nat) : Env := ⟨Try.prog, 34, inTab [3], inTab [], natTab [(3, 3), (17, 3)], inTab [], calTab [(62, .ro (mkFun ks62 rs62 (F62 N))), (27, .ro (mkFun ks27 rs27 (F27 N)))], altTab [], loopTab [], natTab []⟩
theorem fine25 (N : Nat) : Fine (e25 N) N 25 Try.f25 ks25 rs25 (F25 N) :=
  ⟨Try.func25, by kernel_rfl, by kernel_rfl, by kernel_rfl, loops_of trivial, by kernel_rfl, by kernel_rfl, fun _ => by kernel_rfl⟩
theorem good25 (N : Nat) : Go.L.Good (e25 N) := good_of ⟨gd62 N, ⟨gd27 N, trivial⟩⟩
theorem gd25 (N : Nat) : CalOk Try.prog 25 (.full (mkFun ks25 rs25 (F25 N))) := mkFun_good (fine25 N) (good25 N)

/-! ### 26: table.Table).NameOf -/
noncomputable def F26 (N : Nat) : V × Int × Int × H → Option (ByteArray × H)
  | (a0, a1_0, a1_1, h) =>
    (F27 N (a0, a1_0, a1_1, h)).bind fun (x1, _) =>
    (if (!x1) = true then (
    some ((ByteArray.mk #[]), h))
    else (
    (nck a0).bind fun _ =>
    ((rd h (padd a0 0) 0)).bind fun x2 =>
    (sidx x2 a1_0 3).bind fun q3 =>
    (L.asStr (rd h (padd q3 2) 0)).bind fun x4 =>
    some (x4, h)))
abbrev ks26 : List SK := [.one .ref, .agg [(.int .i64), (.int .i64)]]
abbrev rs26 : List SK := [.one .str]
noncomputable def e26 (N : Nat) : Env := ⟨Try.prog, 18, inTab [3], inTab [], natTab [(3, 3), (13, 3)], inTab [], calTab [(27, .ro (mkFun ks27 rs27 (F27 N)))], altTab [], loopTab [], natTab []⟩
theorem fine26 (N : Nat) : Fine (e26 N) N 26 Try.f26 ks26 rs26 (F26 N) :=
  ⟨Try.func26, by kernel_rfl, by kernel_rfl, by kernel_rfl, loops_of trivial, by kernel_rfl, by kernel_rfl, fun _ => by kernel_rfl⟩
theorem good26 (N : Nat) : Go.L.Good (e26 N) := good_of ⟨gd27 N, trivial⟩
theorem gd26 (N : Nat) : CalOk Try.prog 26 (.ro (mkFun ks26 rs26 (F26 N))) := mkFun_ro (fine26 N) (good26 N) (by kernel_rfl)

/-! ### 64: table.atom -/
noncomputable def L64_0 (N : Nat) : Nat → ByteArray × Int × Int × H → Option ((H) ⊕ (Bool × H))
  | 0, _ => none
  | n + 1, (x28, x29, x30, h31) =>
    (if (decide (x30 < x29)) = true then (
    (if 0 ≤ x30 then (x28[Int.toNat x30]?.bind fun c32 =>
    (if (decide (((UInt8.toNat c32 : Nat) : Int) ≥ 97)) = true then (
    some ((decide (((UInt8.toNat c32 : Nat) : Int) ≤ 122)), h31))
    else (
    some (false, h31))).bind fun (b33, h34) =>
    (if (!b33) = true then (
    (if (x30 == 0) = true then (
    some (true, h34))
    else (
    (if (decide (((UInt8.toNat c32 : Nat) : Int) ≥ 65)) = true then (
    some ((decide (((UInt8.toNat c32 : Nat) : Int) ≤ 90)), h34))
    else (
    some (false, h34))).bind fun (b39, h40) =>
    (if b39 = true then (
    some (true, h40))
    else (
    (if (decide (((UInt8.toNat c32 : Nat) : Int) ≥ 48)) = true then (
    some ((decide (((UInt8.toNat c32 : Nat) : Int) ≤ 57)), h40))
    else (
    some (false, h40))).bind fun (b43, h44) =>
    some (b43, h44))).bind fun (b41, h42) =>
    (if b41 = true then (
    some (true, h42))
    else (
    some ((((UInt8.toNat c32 : Nat) : Int) == 95), h42))).bind fun (b45, h46) =>
    some ((!b45), h46))).bind fun (b37, h38) =>
    some (b37, h38))
    else (
    some (false, h34))).bind fun (b35, h36) =>
    (if b35 = true then (
    some (.inr (false, h36)))
    else (
    L64_0 N n (x28, x29, (IntKind.i64.wrap (x30 + 1)), h36)))) else none))
    else (
    some (.inl h31)))
noncomputable def F64 (N : Nat) : ByteArray × H → Option (Bool × H)
  | (a0, h) =>
    (if (decide (((a0).size : Int) < 1)) = true then (
    some (true, h))
    else (
    some ((decide (((a0).size : Int) > 64)), h))).bind fun (b1, h2) =>
    (if b1 = true then (
    some (true, h2))
    else (
    some (((a0).toList == ((ByteArray.mk #[110, 105, 108])).toList), h2))).bind fun (b3, h4) =>
    (if b3 = true then (
    some (true, h4))
    else (
    some (((a0).toList == ((ByteArray.mk #[116, 114, 117, 101])).toList), h4))).bind fun (b5, h6) =>
    (if b5 = true then (
    some (true, h6))
    else (
    some (((a0).toList == ((ByteArray.mk #[102, 97, 108, 115, 101])).toList), h6))).bind fun (b7, h8) =>
    (if b7 = true then (
    some (false, h8))
    else (
    (L64_0 N N (a0, ((a0).size : Int), 0, h8)).bind fun o47 => match o47 with
    | .inl h48 => (
    some (true, h48))
    | .inr (x49, h50) => (
    some (x49, h50))))
abbrev ks64 : List SK := [.one .str]
abbrev rs64 : List SK := [.one .bool]
noncomputable def e64 (N : Nat) : Env := ⟨Try.prog, 68, inTab [], inTab [], natTab [], inTab [], calTab [], altTab [], loopTab [(4, ⟨⟨.normal, [0, 27, 28], [.one .str, .one (.int .i64), .one (.int .i64)], [], []⟩, [⟨(.exit 0), [], [], [], []⟩, ⟨.ret, [2], [.one .bool], [], []⟩], L64_0 N⟩)], natTab []⟩
theorem l64_0 (N : Nat) : ∀ A, (e64 N).lp (lid (loopAt Try.f64 0)) = some A → LoopOk (e64 N) N (loopAt Try.f64 0) A :=
  loopOk_of (A := ⟨⟨.normal, [0, 27, 28], [.one .str, .one (.int .i64), .one (.int .i64)], [], []⟩, [⟨(.exit 0), [], [], [], []⟩, ⟨.ret, [2], [.one .bool], [], []⟩], L64_0 N⟩) (by kernel_rfl) (fun _ => rfl) (fun _ _ => by kernel_rfl)
theorem fine64 (N : Nat) : Fine (e64 N) N 64 Try.f64 ks64 rs64 (F64 N) :=
  ⟨Try.func64, by kernel_rfl, by kernel_rfl, by kernel_rfl, loops_of ⟨l64_0 N, trivial⟩, by kernel_rfl, by kernel_rfl, fun _ => by kernel_rfl⟩
theorem good64 (N : Nat) : Go.L.Good (e64 N) := good_of trivial
theorem gd64 : CalOk Try.prog 64 (.pure (mkP ks64 rs64 (F64 100))) := mkP_good (fine64 100) (good64 100) (by kernel_rfl) (by kernel_rfl)

/-! ### 28: table.Table).Name -/
noncomputable def F28 (N : Nat) : V × Int × Int × ByteArray × H → Option (Int × H)
  | (a0, a1_0, a1_1, a2, h) =>
    (F62 N (a0, h)).bind fun (x1, _) =>
    (if (!x1) = true then (
    some (true, h))
    else (
    (F64 100 (a2, [])).bind fun (x4, _) =>
    some ((!x4), h))).bind fun (b2, h3) =>
    (if b2 = true then (
    some (1, h3))
    else (
    (F27 N (a0, a1_0, a1_1, h3)).bind fun (x5, _) =>
    (if (!x5) = true then (
    some (3, h3))
    else (
    (nck a0).bind fun _ =>
    ((rd h3 (padd a0 1) 0)).bind fun x6 =>
    (hmap h3 x6).bind fun es7 =>
    (mlook (.str a2) es7).bind fun q8 =>
    (L.asInt .i64 (some (Option.getD q8 (.int .i64 0)))).bind fun x9 =>
    (if (Option.isSome q8) = true then (
    some (true, h3))
    else (
    (nck a0).bind fun _ =>
    ((rd h3 (padd a0 0) 0)).bind fun x12 =>
    (sidx x12 a1_0 3).bind fun q13 =>
    (L.asStr (rd h3 (padd q13 2) 0)).bind fun x14 =>
    some ((!((x14).toList == ((ByteArray.mk #[])).toList)), h3))).bind fun (b10, h11) =>
    (if b10 = true then (
    some (141, h11))
    else (
    (nck a0).bind fun _ =>
    ((rd h11 (padd a0 1) 0)).bind fun x15 =>
    (hmapset h11 x15 (.str a2) (.int .i64 a1_0)).bind fun h16 =>
    (nck a0).bind fun _ =>
    ((rd h16 (padd a0 0) 0)).bind fun x17 =>
    (sidx x17 a1_0 3).bind fun q18 =>
    (wr h16 (padd q18 2) [(.str a2)]).bind fun h19 =>
    some (0, h19)))))))
abbrev ks28 : List SK := [.one .ref, .agg [(.int .i64), (.int .i64)], .one .str]
abbrev rs28 : List SK := [.one (.int .i64)]
noncomputable def e28 (N : Nat) : Env := ⟨Try.prog, 59, inTab [4], inTab [], natTab [(4, 4), (36, 4), (48, 4), (54, 4)], inTab [], calTab [(62, .ro (mkFun ks62 rs62 (F62 N))), (64, .pure (mkP ks64 rs64 (F64 100))), (27, .ro (mkFun ks27 rs27 (F27 N)))], altTab [], loopTab [], natTab []⟩
theorem fine28 (N : Nat) : Fine (e28 N) N 28 Try.f28 ks28 rs28 (F28 N) :=
  ⟨Try.func28, by kernel_rfl, by kernel_rfl, by kernel_rfl, loops_of trivial, by kernel_rfl, by kernel_rfl, fun _ => by kernel_rfl⟩
theorem good28 (N : Nat) : Go.L.Good (e28 N) := good_of ⟨gd62 N, ⟨gd64, ⟨gd27 N, trivial⟩⟩⟩
theorem gd28 (N : Nat) : CalOk Try.prog 28 (.full (mkFun ks28 rs28 (F28 N))) := mkFun_good (fine28 N) (good28 N)

/-! ### 29: table.Table).Where -/
noncomputable def F29 (N : Nat) : V × ByteArray × H → Option (Int × Int × Int × H)
  | (a0, a1, h) =>
    (F62 N (a0, h)).bind fun (x1, _) =>
    (if (!x1) = true then (
    some (0, 0, 1, h))
    else (
    (nck a0).bind fun _ =>
    ((rd h (padd a0 1) 0)).bind fun x2 =>
    (hmap h x2).bind fun es3 =>
    (mlook (.str a1) es3).bind fun q4 =>
    (L.asInt .i64 (some (Option.getD q4 (.int .i64 0)))).bind fun x5 =>
    (if (!(Option.isSome q4)) = true then (
    some (0, 0, 3, h))
    else (
    (F63 N (a0, x5, h)).bind fun (x6, x7, _) =>
    some (x6, x7, 0, h)))))
abbrev ks29 : List SK := [.one .ref, .one .str]
abbrev rs29 : List SK := [.agg [(.int .i64), (.int .i64)], .one (.int .i64)]
noncomputable def e29 (N : Nat) : Env := ⟨Try.prog, 27, inTab [4], inTab [], natTab [(4, 4)], inTab [], calTab [(62, .ro (mkFun ks62 rs62 (F62 N))), (63, .ro (mkFun ks63 rs63 (F63 N)))], altTab [], loopTab [], natTab []⟩
theorem fine29 (N : Nat) : Fine (e29 N) N 29 Try.f29 ks29 rs29 (F29 N) :=
  ⟨Try.func29, by kernel_rfl, by kernel_rfl, by kernel_rfl, loops_of trivial, by kernel_rfl, by kernel_rfl, fun _ => by kernel_rfl⟩
theorem good29 (N : Nat) : Go.L.Good (e29 N) := good_of ⟨gd62 N, ⟨gd63 N, trivial⟩⟩
theorem gd29 (N : Nat) : CalOk Try.prog 29 (.ro (mkFun ks29 rs29 (F29 N))) := mkFun_ro (fine29 N) (good29 N) (by kernel_rfl)

/-! ### 30: carousellaw14.awake -/
noncomputable def F30 (N : Nat) : H → Option (Bool × H)
  | h =>
    (F23 N (2, h)).bind fun (x1, x2, h3) =>
    (if (x2 != 0) = true then (
    some (true, h3))
    else (
    (isNil x1).bind fun b6 =>
    some (b6, h3))).bind fun (b4, h5) =>
    (if b4 = true then (
    some (false, h5))
    else (
    (F24 N (x1, h5)).bind fun (x7, x8, x9, h10) =>
    (F28 N (x1, x7, x8, (ByteArray.mk #[97]), h10)).bind fun (x11, h12) =>
    (F29 N (x1, (ByteArray.mk #[97]), h12)).bind fun (x13, x14, x15, _) =>
    (F25 N (x1, x7, x8, h12)).bind fun (x16, h17) =>
    (F24 N (x1, h17)).bind fun (x18, x19, x20, h21) =>
    (if ((x7 == 0) && ((x8 == 1) && true)) = true then (
    some ((x9 == 0), h21))
    else (
    some (false, h21))).bind fun (b22, h23) =>
    (if b22 = true then (
    some ((x11 == 0), h23))
    else (
    some (false, h23))).bind fun (b24, h25) =>
    (if b24 = true then (
    some (((x13 == x7) && ((x14 == x8) && true)), h25))
    else (
    some (false, h25))).bind fun (b26, h27) =>
    (if b26 = true then (
    some ((x15 == 0), h27))
    else (
    some (false, h27))).bind fun (b28, h29) =>
    (if b28 = true then (
    some ((x16 == 0), h29))
    else (
    some (false, h29))).bind fun (b30, h31) =>
    (if b30 = true then (
    some (((x18 == 0) && ((x19 == 2) && true)), h31))
    else (
    some (false, h31))).bind fun (b32, h33) =>
    (if b32 = true then (
    some ((x20 == 0), h33))
    else (
    some (false, h33))).bind fun (b34, h35) =>
    (if b34 = true then (
    (F27 N (x1, x7, x8, h35)).bind fun (x38, _) =>
    some ((!x38), h35))
    else (
    some (false, h35))).bind fun (b36, h37) =>
    (if b36 = true then (
    (F27 N (x1, x18, x19, h37)).bind fun (x41, _) =>
    some (x41, h37))
    else (
    some (false, h37))).bind fun (b39, h40) =>
    some (b39, h40)))
abbrev ks30 : List SK := []
abbrev rs30 : List SK := [.one .bool]
noncomputable def e30 (N : Nat) : Env := ⟨Try.prog, 86, inTab [3, 6, 9], inTab [], natTab [(3, 3), (6, 6), (9, 9)], inTab [], calTab [(23, .full (mkFun ks23 rs23 (F23 N))), (24, .full (mkFun ks24 rs24 (F24 N))), (28, .full (mkFun ks28 rs28 (F28 N))), (29, .ro (mkFun ks29 rs29 (F29 N))), (25, .full (mkFun ks25 rs25 (F25 N))), (27, .ro (mkFun ks27 rs27 (F27 N)))], altTab [], loopTab [], natTab []⟩
theorem fine30 (N : Nat) : Fine (e30 N) N 30 Try.f30 ks30 rs30 (F30 N) :=
  ⟨Try.func30, by kernel_rfl, by kernel_rfl, by kernel_rfl, loops_of trivial, by kernel_rfl, by kernel_rfl, fun _ => by kernel_rfl⟩
theorem good30 (N : Nat) : Go.L.Good (e30 N) := good_of ⟨gd23 N, ⟨gd24 N, ⟨gd28 N, ⟨gd29 N, ⟨gd25 N, ⟨gd27 N, trivial⟩⟩⟩⟩⟩⟩
theorem gd30 : CalOk Try.prog 30 (.pure (mkP ks30 rs30 (F30 100))) := mkP_good (fine30 100) (good30 100) (by kernel_rfl) (by kernel_rfl)

/-! ### 5: carousellaw14.TableNames -/
noncomputable def L5_0 (N : Nat) : Nat → V × V × V × Int × H → Option ((V × V × V × H) ⊕ (Bool × H))
  | 0, _ => none
  | n + 1, (x18, x19, x20, x21, h22) =>
    (if (decide (x21 < 8)) = true then (
    (F24 N (x19, h22)).bind fun (x23, x24, x25, h26) =>
    (if (x25 != 0) = true then (
    some (.inr (false, h26)))
    else (
    (happ h26 x20 2 1 [(.int .i64 x23), (.int .i64 x24)]).bind fun (v27, h28) =>
    L5_0 N n (x18, x19, v27, (IntKind.i64.wrap (x21 + 1)), h28))))
    else (
    some (.inl (x18, x19, x20, h22))))
noncomputable def L5_2 (N : Nat) : Nat → V × V × V × Int × Int × H → Option ((V × V × V × Int × H) ⊕ (Bool × H))
  | 0, _ => none
  | n + 1, (x101, x102, x103, x104, x105, h106) =>
    (if (decide (x105 < 8)) = true then (
    (sidx x103 x105 2).bind fun q107 =>
    (L.asInt .i64 (rd h106 q107 0)).bind fun x108 =>
    (L.asInt .i64 (rd h106 q107 1)).bind fun x109 =>
    (F26 N (x102, x108, x109, h106)).bind fun (x110, _) =>
    (F29 N (x102, x110, h106)).bind fun (x111, x112, x113, _) =>
    (if (!((x110).toList == ((ByteArray.mk #[])).toList)) = true then (
    (if (x113 != 0) = true then (
    some (true, h106))
    else (
    (sidx x103 x105 2).bind fun q118 =>
    (L.asInt .i64 (rd h106 q118 0)).bind fun x119 =>
    (L.asInt .i64 (rd h106 q118 1)).bind fun x120 =>
    some ((!((x111 == x119) && ((x112 == x120) && true))), h106))).bind fun (b116, h117) =>
    (if b116 = true then (
    some (true, h117))
    else (
    (sidx x103 x105 2).bind fun q123 =>
    (L.asInt .i64 (rd h117 q123 0)).bind fun x124 =>
    (L.asInt .i64 (rd h117 q123 1)).bind fun x125 =>
    (F27 N (x102, x124, x125, h117)).bind fun (x126, _) =>
    some ((!x126), h117))).bind fun (b121, h122) =>
    some (b121, h122))
    else (
    some (false, h106))).bind fun (b114, h115) =>
    (if b114 = true then (
    some (.inr (false, h115)))
    else (
    L5_2 N n (x101, x102, x103, x104, (IntKind.i64.wrap (x105 + 1)), h115))))
    else (
    some (.inl (x101, x102, x103, x104, h106))))
noncomputable def L5_1 (N : Nat) : Nat → V × V × V × Int × H → Option ((H) ⊕ (Bool × H))
  | 0, _ => none
  | n + 1, (x137, x138, x139, x140, h141) =>
    (slen x137).bind fun n142 =>
    (if (decide (x140 < n142)) = true then (
    (sidx x137 x140 3).bind fun q143 =>
    (L.asInt .i64 (rd h141 (padd q143 0) 0)).bind fun x144 =>
    (sidx x139 (IntKind.i64.wrap (Int.tmod (IntKind.u64.wrap x144) 8)) 2).bind fun q145 =>
    (L.asInt .i64 (rd h141 q145 0)).bind fun x146 =>
    (L.asInt .i64 (rd h141 q145 1)).bind fun x147 =>
    (sidx x137 x140 3).bind fun q148 =>
    (L.asBool (rd h141 (padd q148 2) 0)).bind fun x149 =>
    ((if x149 = true then (
    (F25 N (x138, x146, x147, h141)).bind fun (x150, h151) =>
    some (.inl (x137, x138, x139, x140, h151)))
    else (
    (F26 N (x138, x146, x147, h141)).bind fun (x152, _) =>
    (F27 N (x138, x146, x147, h141)).bind fun (x153, _) =>
    (sidx x137 x140 3).bind fun q154 =>
    (L.asStr (rd h141 (padd q154 1) 0)).bind fun x155 =>
    (F28 N (x138, x146, x147, x155, h141)).bind fun (x156, h157) =>
    (if (x156 == 0) = true then (
    (if (!((x152).toList == ((ByteArray.mk #[])).toList)) = true then (
    some (true, h157))
    else (
    some ((!x153), h157))).bind fun (b160, h161) =>
    (if b160 = true then (
    some (true, h161))
    else (
    (F26 N (x138, x146, x147, h161)).bind fun (x164, _) =>
    (sidx x137 x140 3).bind fun q165 =>
    (L.asStr (rd h161 (padd q165 1) 0)).bind fun x166 =>
    some ((!((x164).toList == (x166).toList)), h161))).bind fun (b162, h163) =>
    some (b162, h163))
    else (
    some (false, h157))).bind fun (b158, h159) =>
    (if b158 = true then (
    some (true, h159))
    else (
    (if (x156 != 0) = true then (
    (F26 N (x138, x146, x147, h159)).bind fun (x171, _) =>
    some ((!((x171).toList == (x152).toList)), h159))
    else (
    some (false, h159))).bind fun (b169, h170) =>
    some (b169, h170))).bind fun (b167, h168) =>
    (if b167 = true then (
    some (.inr (false, h168)))
    else (
    some (.inl (x137, x138, x139, x140, h168)))))) : Option ((V × V × V × Int × H) ⊕ (Bool × H))).bind fun o172 => match o172 with
    | .inl (x173, x174, x175, x176, h177) => (
    (L5_2 N N (x173, x174, x175, x176, 0, h177)).bind fun o178 => match o178 with
    | .inl (x179, x180, x181, x182, h183) => (
    L5_1 N n (x179, x180, x181, (IntKind.i64.wrap (x182 + 1)), h183))
    | .inr (x184, h185) => (
    some (.inr (x184, h185))))
    | .inr (x186, h187) => (
    some (.inr (x186, h187))))
    else (
    some (.inl h141)))
noncomputable def F5 (N : Nat) : V × H → Option (Bool × H)
  | (a0, h) =>
    (F23 N (8, h)).bind fun (x1, x2, h3) =>
    (if (x2 != 0) = true then (
    some (true, h3))
    else (
    (isNil x1).bind fun b6 =>
    some (b6, h3))).bind fun (b4, h5) =>
    (if b4 = true then (
    some (false, h5))
    else (
    (L5_0 N N (a0, x1, .nils, 0, h5)).bind fun o29 => match o29 with
    | .inl (x30, x31, x32, h33) => (
    (L5_1 N N (x30, x31, x32, 0, h33)).bind fun o188 => match o188 with
    | .inl h189 => (
    (F30 100 []).bind fun (x190, _) =>
    some (x190, h189))
    | .inr (x191, h192) => (
    some (x191, h192)))
    | .inr (x193, h194) => (
    some (x193, h194))))
abbrev ks5 : List SK := [.one .ref]
abbrev rs5 : List SK := [.one .bool]
noncomputable def e5 (N : Nat) : Env := ⟨Try.prog, 154, inTab [7, 10, 16, 41], inTab [], natTab [(7, 7), (10, 10), (16, 16)], inTab [], calTab [(23, .full (mkFun ks23 rs23 (F23 N))), (24, .full (mkFun ks24 rs24 (F24 N))), (25, .full (mkFun ks25 rs25 (F25 N))), (26, .ro (mkFun ks26 rs26 (F26 N))), (27, .ro (mkFun ks27 rs27 (F27 N))), (28, .full (mkFun ks28 rs28 (F28 N))), (29, .ro (mkFun ks29 rs29 (F29 N))), (30, .pure (mkP ks30 rs30 (F30 100)))], altTab [(4832952384, [⟨.normal, [0, 3, 5, 9], [.one .ref, .one .ref, .one .ref, .one (.int .i64)], [], []⟩, ⟨.ret, [2], [.one .bool], [], []⟩])], loopTab [(6, ⟨⟨.normal, [0, 3, 5, 6], [.one .ref, .one .ref, .one .ref, .one (.int .i64)], [], []⟩, [⟨(.exit 0), [0, 3, 5], [.one .ref, .one .ref, .one .ref], [], []⟩, ⟨.ret, [2], [.one .bool], [], []⟩], L5_0 N⟩), (13, ⟨⟨.normal, [0, 3, 5, 9], [.one .ref, .one .ref, .one .ref, .one (.int .i64)], [], []⟩, [⟨(.exit 2), [], [], [], []⟩, ⟨.ret, [2], [.one .bool], [], []⟩], L5_1 N⟩), (23, ⟨⟨.normal, [0, 3, 5, 9, 14], [.one .ref, .one .ref, .one .ref, .one (.int .i64), .one (.int .i64)], [], []⟩, [⟨(.exit 4), [0, 3, 5, 9], [.one .ref, .one .ref, .one .ref, .one (.int .i64)], [], []⟩, ⟨.ret, [2], [.one .bool], [], []⟩], L5_2 N⟩)], natTab []⟩
theorem l5_0 (N : Nat) : ∀ A, (e5 N).lp (lid (loopAt Try.f5 0)) = some A → LoopOk (e5 N) N (loopAt Try.f5 0) A :=
  loopOk_of (A := ⟨⟨.normal, [0, 3, 5, 6], [.one .ref, .one .ref, .one .ref, .one (.int .i64)], [], []⟩, [⟨(.exit 0), [0, 3, 5], [.one .ref, .one .ref, .one .ref], [], []⟩, ⟨.ret, [2], [.one .bool], [], []⟩], L5_0 N⟩) (by kernel_rfl) (fun _ => rfl) (fun _ _ => by kernel_rfl)
theorem l5_1 (N : Nat) : ∀ A, (e5 N).lp (lid (loopAt Try.f5 1)) = some A → LoopOk (e5 N) N (loopAt Try.f5 1) A :=
  loopOk_of (A := ⟨⟨.normal, [0, 3, 5, 9], [.one .ref, .one .ref, .one .ref, .one (.int .i64)], [], []⟩, [⟨(.exit 2), [], [], [], []⟩, ⟨.ret, [2], [.one .bool], [], []⟩], L5_1 N⟩) (by kernel_rfl) (fun _ => rfl) (fun _ _ => by kernel_rfl)
theorem l5_2 (N : Nat) : ∀ A, (e5 N).lp (lid (loopAt Try.f5 2)) = some A → LoopOk (e5 N) N (loopAt Try.f5 2) A :=
  loopOk_of (A := ⟨⟨.normal, [0, 3, 5, 9, 14], [.one .ref, .one .ref, .one .ref, .one (.int .i64), .one (.int .i64)], [], []⟩, [⟨(.exit 4), [0, 3, 5, 9], [.one .ref, .one .ref, .one .ref, .one (.int .i64)], [], []⟩, ⟨.ret, [2], [.one .bool], [], []⟩], L5_2 N⟩) (by kernel_rfl) (fun _ => rfl) (fun _ _ => by kernel_rfl)
theorem fine5 (N : Nat) : Fine (e5 N) N 5 Try.f5 ks5 rs5 (F5 N) :=
  ⟨Try.func5, by kernel_rfl, by kernel_rfl, by kernel_rfl, loops_of ⟨l5_0 N, ⟨l5_1 N, ⟨l5_2 N, trivial⟩⟩⟩, by kernel_rfl, by kernel_rfl, fun _ => by kernel_rfl⟩
theorem good5 (N : Nat) : Go.L.Good (e5 N) := good_of ⟨gd23 N, ⟨gd24 N, ⟨gd25 N, ⟨gd26 N, ⟨gd27 N, ⟨gd28 N, ⟨gd29 N, ⟨gd30, trivial⟩⟩⟩⟩⟩⟩⟩⟩
theorem gd5 (N : Nat) : CalOk Try.prog 5 (.full (mkFun ks5 rs5 (F5 N))) := mkFun_good (fine5 N) (good5 N)

/-! ### 31: carouselref14.New -/
noncomputable def F31 (N : Nat) : Int × H → Option (Int × V × V × V × Int × H)
  | (a0, h) =>
    (if (decide (a0 < 1)) = true then (
    some (true, h))
    else (
    some ((decide (a0 > 256)), h))).bind fun (b1, h2) =>
    (if b1 = true then (
    some (0, .nils, .nils, .nils, 1, h2))
    else (
    (some (h2 ++ [O.rsv, O.rsv, O.rsv]) : Option H).bind fun h3 =>
    (if 0 ≤ a0 then (if a0 ≤ a0 then (if a0 * ((1 : Nat) : Int) ≤ ((mostCells : Nat) : Int) then (
    (hfill h3 3 (repeatC (Int.toNat a0) [(.int .i64 0)])).bind fun h4 =>
    (if 0 ≤ a0 then (if a0 ≤ a0 then (if a0 * ((1 : Nat) : Int) ≤ ((mostCells : Nat) : Int) then (
    (hfill h4 2 (repeatC (Int.toNat a0) [(.bool false)])).bind fun h5 =>
    (if 0 ≤ a0 then (if a0 ≤ a0 then (if a0 * ((1 : Nat) : Int) ≤ ((mostCells : Nat) : Int) then (
    (hfill h5 1 (repeatC (Int.toNat a0) [(.str (ByteArray.mk #[]))])).bind fun h6 =>
    (ck1 (.sl ((h3).length - 3) 1 0 (Int.toNat a0) 1 (some (Int.toNat a0)))).bind fun _ =>
    (ck1 (.sl ((h4).length - 2) 1 0 (Int.toNat a0) 1 (some (Int.toNat a0)))).bind fun _ =>
    (ck1 (.sl ((h5).length - 1) 1 0 (Int.toNat a0) 1 (some (Int.toNat a0)))).bind fun _ =>
    some (a0, (.sl ((h3).length - 3) 1 0 (Int.toNat a0) 1 (some (Int.toNat a0))), (.sl ((h4).length - 2) 1 0 (Int.toNat a0) 1 (some (Int.toNat a0))), (.sl ((h5).length - 1) 1 0 (Int.toNat a0) 1 (some (Int.toNat a0))), 0, h6)) else none) else none) else none)) else none) else none) else none)) else none) else none) else none)))
abbrev ks31 : List SK := [.one (.int .i64)]
abbrev rs31 : List SK := [.agg [(.int .i64), .ref, .ref, .ref], .one (.int .i64)]
noncomputable def e31 (N : Nat) : Env := ⟨Try.prog, 20, inTab [2, 4], inTab [], natTab [(2, 2), (4, 4)], inTab [], calTab [], altTab [], loopTab [], natTab [(14, 3), (16, 2), (18, 1)]⟩
theorem fine31 (N : Nat) : Fine (e31 N) N 31 Try.f31 ks31 rs31 (F31 N) :=
  ⟨Try.func31, by kernel_rfl, by kernel_rfl, by kernel_rfl, loops_of trivial, by kernel_rfl, by kernel_rfl, fun _ => by kernel_rfl⟩
theorem good31 (N : Nat) : Go.L.Good (e31 N) := good_of trivial
theorem gd31 (N : Nat) : CalOk Try.prog 31 (.full (mkFun ks31 rs31 (F31 N))) := mkFun_good (fine31 N) (good31 N)

/-! ### 32: table.Table).Live -/
noncomputable def L32_0 (N : Nat) : Nat → V × V × V × Int × Int × H → Option (V × H)
  | 0, _ => none
  | n + 1, (x24, x25, x26, x27, x28, h29) =>
    (if (decide (x28 < x27)) = true then (
    (sidx x26 x28 3).bind fun q30 =>
    (L.asInt .i64 (rd h29 q30 0)).bind fun x31 =>
    (L.asBool (rd h29 q30 1)).bind fun x32 =>
    (L.asStr (rd h29 q30 2)).bind fun x33 =>
    ((if x32 = true then (
    (F63 N (x24, x28, h29)).bind fun (x34, x35, _) =>
    (happ h29 x25 2 1 [(.int .i64 x34), (.int .i64 x35)]).bind fun (v36, h37) =>
    some (x24, v36, x26, x27, x28, h37))
    else (
    some (x24, x25, x26, x27, x28, h29))) : Option (V × V × V × Int × Int × H)).bind fun (x38, x39, x40, x41, x42, h43) =>
    L32_0 N n (x38, x39, x40, x41, (IntKind.i64.wrap (x42 + 1)), h43))
    else (
    some (x25, h29)))
noncomputable def F32 (N : Nat) : V × H → Option (V × H)
  | (a0, h) =>
    (F62 N (a0, h)).bind fun (x1, _) =>
    (if (!x1) = true then (
    some (.nils, h))
    else (
    (nck a0).bind fun _ =>
    ((rd h (padd a0 0) 0)).bind fun x2 =>
    (slen x2).bind fun n3 =>
    (L32_0 N N (a0, .nils, x2, n3, 0, h)).bind fun (x44, h45) =>
    some (x44, h45)))
abbrev ks32 : List SK := [.one .ref]
abbrev rs32 : List SK := [.one .ref]
noncomputable def e32 (N : Nat) : Env := ⟨Try.prog, 29, inTab [5, 25], inTab [], natTab [(5, 5), (19, 5)], inTab [], calTab [(62, .ro (mkFun ks62 rs62 (F62 N))), (63, .ro (mkFun ks63 rs63 (F63 N)))], altTab [(524308, [⟨.normal, [0, 3, 12, 13, 14], [.one .ref, .one .ref, .one .ref, .one (.int .i64), .one (.int .i64)], [], []⟩])], loopTab [(5, ⟨⟨.normal, [0, 3, 12, 13, 14], [.one .ref, .one .ref, .one .ref, .one (.int .i64), .one (.int .i64)], [], []⟩, [⟨(.exit 0), [3], [.one .ref], [], []⟩], L32_0 N⟩)], natTab []⟩
theorem l32_0 (N : Nat) : ∀ A, (e32 N).lp (lid (loopAt Try.f32 0)) = some A → LoopOk (e32 N) N (loopAt Try.f32 0) A :=
  loopOk_of (A := ⟨⟨.normal, [0, 3, 12, 13, 14], [.one .ref, .one .ref, .one .ref, .one (.int .i64), .one (.int .i64)], [], []⟩, [⟨(.exit 0), [3], [.one .ref], [], []⟩], L32_0 N⟩) (by kernel_rfl) (fun _ => rfl) (fun _ _ => by kernel_rfl)
theorem fine32 (N : Nat) : Fine (e32 N) N 32 Try.f32 ks32 rs32 (F32 N) :=
  ⟨Try.func32, by kernel_rfl, by kernel_rfl, by kernel_rfl, loops_of ⟨l32_0 N, trivial⟩, by kernel_rfl, by kernel_rfl, fun _ => by kernel_rfl⟩
theorem good32 (N : Nat) : Go.L.Good (e32 N) := good_of ⟨gd62 N, ⟨gd63 N, trivial⟩⟩
theorem gd32 (N : Nat) : CalOk Try.prog 32 (.full (mkFun ks32 rs32 (F32 N))) := mkFun_good (fine32 N) (good32 N)

/-! ### 6: carousellaw14.TableFresh -/
noncomputable def L6_1 (N : Nat) : Nat → Int × V × V × V × V × Int × Int × Int × Int × Int × H → Option ((Int × V × V × V × V × Int × Int × Int × Int × H) ⊕ (Bool × H))
  | 0, _ => none
  | n + 1, (x56, x57, x58, x59, x60, x61, x62, x63, x64, x65, h66) =>
    (slen x59).bind fun n67 =>
    (if (decide (x63 < n67)) = true then (
    (sidx x59 x63 2).bind fun q68 =>
    (L.asInt .i64 (rd h66 q68 0)).bind fun x69 =>
    (L.asInt .i64 (rd h66 q68 1)).bind fun x70 =>
    (if ((x69 == x64) && ((x70 == x65) && true)) = true then (
    some (.inr (false, h66)))
    else (
    L6_1 N n (x56, x57, x58, x59, x60, x61, x62, (IntKind.i64.wrap (x63 + 1)), x64, x65, h66))))
    else (
    some (.inl (x56, x57, x58, x59, x60, x61, x62, x64, x65, h66))))
noncomputable def L6_0 (N : Nat) : Nat → Int × V × V × V × V × Int × Int × H → Option ((V × V × V × Int × H) ⊕ (Bool × H))
  | 0, _ => none
  | n + 1, (x100, x101, x102, x103, x104, x105, x106, h107) =>
    (slen x101).bind fun n108 =>
    (if (decide (x106 < n108)) = true then (
    (sidx x101 x106 1).bind fun q109 =>
    (L.asInt .i64 (rd h107 q109 0)).bind fun x110 =>
    (if (decide (x110 < 0)) = true then (
    some (true, h107))
    else (
    (slen x103).bind fun n113 =>
    some ((n113 == 0), h107))).bind fun (b111, h112) =>
    ((if b111 = true then (
    (F24 N (x102, h112)).bind fun (x114, x115, x116, h117) =>
    (if (!((x116 == 0) == (decide (x105 < x100)))) = true then (
    some (true, h117))
    else (
    (if (x116 != 0) = true then (
    some ((x116 != 140), h117))
    else (
    some (false, h117))).bind fun (b120, h121) =>
    some (b120, h121))).bind fun (b118, h119) =>
    (if b118 = true then (
    some (.inr (.inr (false, h119))))
    else (
    (if (x116 != 0) = true then (
    some (.inr (.inl (x100, x101, x102, x103, x104, x105, x106, h119))))
    else (
    (L6_1 N N (x100, x101, x102, x103, x104, x105, x106, 0, x114, x115, h119)).bind fun o122 => match o122 with
    | .inl (x123, x124, x125, x126, x127, x128, x129, x130, x131, h132) => (
    (happ h132 x126 2 1 [(.int .i64 x130), (.int .i64 x131)]).bind fun (v133, h134) =>
    (happ h134 x127 1 1 [(.bool false)]).bind fun (v135, h136) =>
    some (.inr (.inl (x123, x124, x125, v133, v135, (IntKind.i64.wrap (x128 + 1)), x129, h136))))
    | .inr (x137, h138) => (
    some (.inr (.inr (x137, h138)))))))))
    else (
    some (.inl (x100, x101, x102, x103, x104, x105, x106, h112)))) : Option ((Int × V × V × V × V × Int × Int × H) ⊕ ((Int × V × V × V × V × Int × Int × H) ⊕ (Bool × H)))).bind fun o139 => match o139 with
    | .inl (x140, x141, x142, x143, x144, x145, x146, h147) => (
    (sidx x141 x146 1).bind fun q148 =>
    (L.asInt .i64 (rd h147 q148 0)).bind fun x149 =>
    (slen x143).bind fun n150 =>
    (if n150 = 0 then none else (
    (sidx x143 (Int.tmod x149 n150) 2).bind fun q151 =>
    (L.asInt .i64 (rd h147 q151 0)).bind fun x152 =>
    (L.asInt .i64 (rd h147 q151 1)).bind fun x153 =>
    (F25 N (x142, x152, x153, h147)).bind fun (x154, h155) =>
    (sidx x144 (Int.tmod x149 n150) 1).bind fun q156 =>
    (L.asBool (rd h155 q156 0)).bind fun x157 =>
    (if ((x154 == 0) == x157) = true then (
    some (.inr (false, h155)))
    else (
    (sidx x144 (Int.tmod x149 n150) 1).bind fun q158 =>
    (L.asBool (rd h155 q158 0)).bind fun x159 =>
    ((if (!x159) = true then (
    some (x140, x141, x142, x143, x144, (IntKind.i64.wrap (x145 - 1)), x146, (Int.tmod x149 n150), h155))
    else (
    some (x140, x141, x142, x143, x144, x145, x146, (Int.tmod x149 n150), h155))) : Option (Int × V × V × V × V × Int × Int × Int × H)).bind fun (x160, x161, x162, x163, x164, x165, x166, x167, h168) =>
    (sidx x164 x167 1).bind fun q169 =>
    (wr h168 q169 [(.bool true)]).bind fun h170 =>
    L6_0 N n (x160, x161, x162, x163, x164, x165, (IntKind.i64.wrap (x166 + 1)), h170))))))
    | .inr (.inl (x171, x172, x173, x174, x175, x176, x177, h178)) => (
    L6_0 N n (x171, x172, x173, x174, x175, x176, (IntKind.i64.wrap (x177 + 1)), h178))
    | .inr (.inr (x179, h180)) => (
    some (.inr (x179, h180))))
    else (
    some (.inl (x102, x103, x104, x105, h107))))
noncomputable def L6_2 (N : Nat) : Nat → V × V × V × Int × Int × H → Option ((V × Int × H) ⊕ (Bool × H))
  | 0, _ => none
  | n + 1, (x200, x201, x202, x203, x204, h205) =>
    (slen x201).bind fun n206 =>
    (if (decide (x204 < n206)) = true then (
    (sidx x201 x204 2).bind fun q207 =>
    (L.asInt .i64 (rd h205 q207 0)).bind fun x208 =>
    (L.asInt .i64 (rd h205 q207 1)).bind fun x209 =>
    (F27 N (x200, x208, x209, h205)).bind fun (x210, _) =>
    (sidx x202 x204 1).bind fun q211 =>
    (L.asBool (rd h205 q211 0)).bind fun x212 =>
    (if (x210 == x212) = true then (
    some (.inr (false, h205)))
    else (
    L6_2 N n (x200, x201, x202, x203, (IntKind.i64.wrap (x204 + 1)), h205))))
    else (
    some (.inl (x200, x203, h205))))
noncomputable def F6 (N : Nat) : Int × V × H → Option (Bool × H)
  | (a0, a1, h) =>
    (F23 N (a0, h)).bind fun (x1, x2, h3) =>
    (if (x2 != 0) = true then (
    some (true, h3))
    else (
    (isNil x1).bind fun b6 =>
    some (b6, h3))).bind fun (b4, h5) =>
    (if b4 = true then (
    (F31 N (a0, h5)).bind fun (x7, x8, x9, x10, x11, h12) =>
    (if (x2 == x11) = true then (
    (isNil x1).bind fun b15 =>
    some (b15, h12))
    else (
    some (false, h12))).bind fun (b13, h14) =>
    (if b13 = true then (
    (F30 100 []).bind fun (x18, _) =>
    some (x18, h14))
    else (
    some (false, h14))).bind fun (b16, h17) =>
    some (b16, h17))
    else (
    (L6_0 N N (a0, a1, x1, .nils, .nils, 0, 0, h5)).bind fun o181 => match o181 with
    | .inl (x182, x183, x184, x185, h186) => (
    (L6_2 N N (x182, x183, x184, x185, 0, h186)).bind fun o213 => match o213 with
    | .inl (x214, x215, h216) => (
    (F32 N (x214, h216)).bind fun (x217, h218) =>
    (slen x217).bind fun n219 =>
    (if (n219 == x215) = true then (
    (F30 100 []).bind fun (x222, _) =>
    some (x222, h218))
    else (
    some (false, h218))).bind fun (b220, h221) =>
    some (b220, h221))
    | .inr (x223, h224) => (
    some (x223, h224)))
    | .inr (x225, h226) => (
    some (x225, h226))))
abbrev ks6 : List SK := [.one (.int .i64), .one .ref]
abbrev rs6 : List SK := [.one .bool]
noncomputable def e6 (N : Nat) : Env := ⟨Try.prog, 158, inTab [7, 13, 96, 99], inTab [], natTab [(7, 7), (13, 13)], inTab [], calTab [(23, .full (mkFun ks23 rs23 (F23 N))), (31, .full (mkFun ks31 rs31 (F31 N))), (30, .pure (mkP ks30 rs30 (F30 100))), (24, .full (mkFun ks24 rs24 (F24 N))), (25, .full (mkFun ks25 rs25 (F25 N))), (27, .ro (mkFun ks27 rs27 (F27 N))), (32, .full (mkFun ks32 rs32 (F32 N)))], altTab [(786492, [⟨.normal, [0, 1, 5, 9, 10, 11, 12], [.one (.int .i64), .one .ref, .one .ref, .one .ref, .one .ref, .one (.int .i64), .one (.int .i64)], [], []⟩, ⟨(.exit 1), [0, 1, 5, 9, 10, 11, 12], [.one (.int .i64), .one .ref, .one .ref, .one .ref, .one .ref, .one (.int .i64), .one (.int .i64)], [], []⟩, ⟨.ret, [4], [.one .bool], [], []⟩]), (1900671, [⟨.normal, [0, 1, 5, 9, 10, 11, 12, 16], [.one (.int .i64), .one .ref, .one .ref, .one .ref, .one .ref, .one (.int .i64), .one (.int .i64), .one (.int .i64)], [], []⟩])], loopTab [(9, ⟨⟨.normal, [0, 1, 5, 9, 10, 11, 12], [.one (.int .i64), .one .ref, .one .ref, .one .ref, .one .ref, .one (.int .i64), .one (.int .i64)], [], []⟩, [⟨(.exit 0), [5, 9, 10, 11], [.one .ref, .one .ref, .one .ref, .one (.int .i64)], [], []⟩, ⟨.ret, [4], [.one .bool], [], []⟩], L6_0 N⟩), (17, ⟨⟨.normal, [0, 1, 5, 9, 10, 11, 12, 13, 15], [.one (.int .i64), .one .ref, .one .ref, .one .ref, .one .ref, .one (.int .i64), .one (.int .i64), .lp 13 0, .one (.int .i64)], [13], [.cells [(.int .i64), (.int .i64)]]⟩, [⟨(.exit 2), [0, 1, 5, 9, 10, 11, 12, 13], [.one (.int .i64), .one .ref, .one .ref, .one .ref, .one .ref, .one (.int .i64), .one (.int .i64), .lp 13 0], [13], [.cells [(.int .i64), (.int .i64)]]⟩, ⟨.ret, [4], [.one .bool], [], []⟩], L6_1 N⟩), (32, ⟨⟨.normal, [5, 9, 10, 11, 18], [.one .ref, .one .ref, .one .ref, .one (.int .i64), .one (.int .i64)], [], []⟩, [⟨(.exit 4), [5, 11], [.one .ref, .one (.int .i64)], [], []⟩, ⟨.ret, [4], [.one .bool], [], []⟩], L6_2 N⟩)], natTab []⟩
theorem l6_0 (N : Nat) : ∀ A, (e6 N).lp (lid (loopAt Try.f6 0)) = some A → LoopOk (e6 N) N (loopAt Try.f6 0) A :=
  loopOk_of (A := ⟨⟨.normal, [0, 1, 5, 9, 10, 11, 12], [.one (.int .i64), .one .ref, .one .ref, .one .ref, .one .ref, .one (.int .i64), .one (.int .i64)], [], []⟩, [⟨(.exit 0), [5, 9, 10, 11], [.one .ref, .one .ref, .one .ref, .one (.int .i64)], [], []⟩, ⟨.ret, [4], [.one .bool], [], []⟩], L6_0 N⟩) (by kernel_rfl) (fun _ => rfl) (fun _ _ => by kernel_rfl)
theorem l6_1 (N : Nat) : ∀ A, (e6 N).lp (lid (loopAt Try.f6 1)) = some A → LoopOk (e6 N) N (loopAt Try.f6 1) A :=
  loopOk_of (A := ⟨⟨.normal, [0, 1, 5, 9, 10, 11, 12, 13, 15], [.one (.int .i64), .one .ref, .one .ref, .one .ref, .one .ref, .one (.int .i64), .one (.int .i64), .lp 13 0, .one (.int .i64)], [13], [.cells [(.int .i64), (.int .i64)]]⟩, [⟨(.exit 2), [0, 1, 5, 9, 10, 11, 12, 13], [.one (.int .i64), .one .ref, .one .ref, .one .ref, .one .ref, .one (.int .i64), .one (.int .i64), .lp 13 0], [13], [.cells [(.int .i64), (.int .i64)]]⟩, ⟨.ret, [4], [.one .bool], [], []⟩], L6_1 N⟩) (by kernel_rfl) (fun _ => rfl) (fun _ _ => by kernel_rfl)
theorem l6_2 (N : Nat) : ∀ A, (e6 N).lp (lid (loopAt Try.f6 2)) = some A → LoopOk (e6 N) N (loopAt Try.f6 2) A :=
  loopOk_of (A := ⟨⟨.normal, [5, 9, 10, 11, 18], [.one .ref, .one .ref, .one .ref, .one (.int .i64), .one (.int .i64)], [], []⟩, [⟨(.exit 4), [5, 11], [.one .ref, .one (.int .i64)], [], []⟩, ⟨.ret, [4], [.one .bool], [], []⟩], L6_2 N⟩) (by kernel_rfl) (fun _ => rfl) (fun _ _ => by kernel_rfl)
theorem fine6 (N : Nat) : Fine (e6 N) N 6 Try.f6 ks6 rs6 (F6 N) :=
  ⟨Try.func6, by kernel_rfl, by kernel_rfl, by kernel_rfl, loops_of ⟨l6_0 N, ⟨l6_1 N, ⟨l6_2 N, trivial⟩⟩⟩, by kernel_rfl, by kernel_rfl, fun _ => by kernel_rfl⟩
theorem good6 (N : Nat) : Go.L.Good (e6 N) := good_of ⟨gd23 N, ⟨gd31 N, ⟨gd30, ⟨gd24 N, ⟨gd25 N, ⟨gd27 N, ⟨gd32 N, trivial⟩⟩⟩⟩⟩⟩⟩
theorem gd6 (N : Nat) : CalOk Try.prog 6 (.full (mkFun ks6 rs6 (F6 N))) := mkFun_good (fine6 N) (good6 N)

/-! ### 52: carouselref02.Lent -/
noncomputable def L52_0 (N : Nat) : Nat → V × V × Int × H → Option (V × V × H)
  | 0, _ => none
  | n + 1, (x12, x13, x14, h15) =>
    (if (decide (x14 < 70)) = true then (
    (happ h15 x13 1 1 [(.int .i64 (IntKind.i64.wrap ((-770000) - x14)))]).bind fun (v16, h17) =>
    L52_0 N n (x12, v16, (IntKind.i64.wrap (x14 + 1)), h17))
    else (
    some (x12, x13, h15)))
noncomputable def F52 (N : Nat) : V × H → Option (V × H)
  | (a0, h) =>
    (slen a0).bind fun n1 =>
    (if 0 ≤ 0 then (if 0 ≤ (IntKind.i64.wrap (n1 + 70)) then (if (IntKind.i64.wrap (n1 + 70)) * ((1 : Nat) : Int) ≤ ((mostCells : Nat) : Int) then (
    (some (h ++ [O.cells 0 (repeatC (Int.toNat (IntKind.i64.wrap (n1 + 70))) [(.int .i64 0)])]) : Option H).bind fun h2 =>
    (scells h2 a0 1).bind fun cs5 =>
    (happ h2 (.sl (h).length 0 0 (Int.toNat 0) 1 (some (Int.toNat (IntKind.i64.wrap (n1 + 70))))) 1 (snlen a0) cs5).bind fun (v3, h4) =>
    (L52_0 N N (a0, v3, 0, h4)).bind fun (x18, x19, h20) =>
    (slen x18).bind fun n21 =>
    (slen x19).bind fun n22 =>
    (ssl 1 x19 0 n21).bind fun v23 =>
    some (v23, h20)) else none) else none) else none)
abbrev ks52 : List SK := [.one .ref]
abbrev rs52 : List SK := [.one .ref]
noncomputable def e52 (N : Nat) : Env := ⟨Try.prog, 25, inTab [19], inTab [], natTab [], inTab [], calTab [], altTab [], loopTab [(4, ⟨⟨.normal, [0, 3, 4], [.one .ref, .one .ref, .one (.int .i64)], [], []⟩, [⟨(.exit 0), [0, 3], [.one .ref, .one .ref], [], []⟩], L52_0 N⟩)], natTab []⟩
theorem l52_0 (N : Nat) : ∀ A, (e52 N).lp (lid (loopAt Try.f52 0)) = some A → LoopOk (e52 N) N (loopAt Try.f52 0) A :=
  loopOk_of (A := ⟨⟨.normal, [0, 3, 4], [.one .ref, .one .ref, .one (.int .i64)], [], []⟩, [⟨(.exit 0), [0, 3], [.one .ref, .one .ref], [], []⟩], L52_0 N⟩) (by kernel_rfl) (fun _ => rfl) (fun _ _ => by kernel_rfl)
theorem fine52 (N : Nat) : Fine (e52 N) N 52 Try.f52 ks52 rs52 (F52 N) :=
  ⟨Try.func52, by kernel_rfl, by kernel_rfl, by kernel_rfl, loops_of ⟨l52_0 N, trivial⟩, by kernel_rfl, by kernel_rfl, fun _ => by kernel_rfl⟩
theorem good52 (N : Nat) : Go.L.Good (e52 N) := good_of trivial
theorem gd52 (N : Nat) : CalOk Try.prog 52 (.full (mkFun ks52 rs52 (F52 N))) := mkFun_good (fine52 N) (good52 N)

/-! ### 53: table.Load -/
noncomputable def L53_0 (N : Nat) : Nat → V × V × V × V × V × Int × Int × H → Option ((V × V × V × V × H) ⊕ (V × Int × H))
  | 0, _ => none
  | n + 1, (x25, x26, x27, x28, x29, x30, x31, h32) =>
    (if (decide (x31 < x30)) = true then (
    (sidx x29 x31 1).bind fun q33 =>
    (L.asInt .i64 (rd h32 q33 0)).bind fun x34 =>
    (if (decide (x34 < 0)) = true then (
    some (true, h32))
    else (
    some ((decide (x34 > 4611686018427387903)), h32))).bind fun (b35, h36) =>
    (if b35 = true then (
    some (.inr (.nilp, 1, h36)))
    else (
    (nck x28).bind fun _ =>
    ((rd h36 (padd x28 0) 0)).bind fun x37 =>
    (sidx x37 x31 3).bind fun q38 =>
    (wr h36 (padd q38 0) [(.int .i64 x34)]).bind fun h39 =>
    L53_0 N n (x25, x26, x27, x28, x29, x30, (IntKind.i64.wrap (x31 + 1)), h39))))
    else (
    some (.inl (x25, x26, x27, x28, h32))))
noncomputable def L53_1 (N : Nat) : Nat → V × V × V × V × V × Int × Int × H → Option ((V × V × V × H) ⊕ (V × Int × H))
  | 0, _ => none
  | n + 1, (x76, x77, x78, x79, x80, x81, x82, h83) =>
    (if (decide (x82 < x81)) = true then (
    (sidx x80 x82 2).bind fun q84 =>
    (L.asInt .i64 (rd h83 q84 0)).bind fun x85 =>
    (L.asInt .i64 (rd h83 q84 1)).bind fun x86 =>
    (if (decide (x85 < 0)) = true then (
    some (true, h83))
    else (
    (slen x76).bind fun n89 =>
    some ((decide (x85 ≥ n89)), h83))).bind fun (b87, h88) =>
    (if b87 = true then (
    some (true, h88))
    else (
    (if (decide (x82 > 0)) = true then (
    (sidx x77 (IntKind.i64.wrap (x82 - 1)) 2).bind fun q94 =>
    (L.asInt .i64 (rd h88 (padd q94 0) 0)).bind fun x95 =>
    some ((decide (x95 ≥ x85)), h88))
    else (
    some (false, h88))).bind fun (b92, h93) =>
    some (b92, h93))).bind fun (b90, h91) =>
    (if b90 = true then (
    some (true, h91))
    else (
    some ((decide (x86 < 1)), h91))).bind fun (b96, h97) =>
    (if b96 = true then (
    some (true, h97))
    else (
    (sidx x76 x85 1).bind fun q100 =>
    (L.asInt .i64 (rd h97 q100 0)).bind fun x101 =>
    some ((x86 != x101), h97))).bind fun (b98, h99) =>
    (if b98 = true then (
    some (.inr (.nilp, 1, h99)))
    else (
    (nck x79).bind fun _ =>
    ((rd h99 (padd x79 0) 0)).bind fun x102 =>
    (sidx x102 x85 3).bind fun q103 =>
    (wr h99 (padd q103 1) [(.bool true)]).bind fun h104 =>
    L53_1 N n (x76, x77, x78, x79, x80, x81, (IntKind.i64.wrap (x82 + 1)), h104))))
    else (
    some (.inl (x77, x78, x79, h83))))
noncomputable def L53_2 (N : Nat) : Nat → V × V × V × Int × Int × H → Option ((V × H) ⊕ (V × Int × H))
  | 0, _ => none
  | n + 1, (x126, x127, x128, x129, x130, h131) =>
    (if (decide (x130 < x129)) = true then (
    (sidx x128 x130 1).bind fun q132 =>
    (L.asStr (rd h131 q132 0)).bind fun x133 =>
    (if (!((x133).toList == ((ByteArray.mk #[])).toList)) = true then (
    (sidx x126 x130 2).bind fun q136 =>
    (L.asInt .i64 (rd h131 q136 0)).bind fun x137 =>
    (L.asInt .i64 (rd h131 q136 1)).bind fun x138 =>
    (F28 N (x127, x137, x138, x133, h131)).bind fun (x139, h140) =>
    some ((x139 != 0), h140))
    else (
    some (false, h131))).bind fun (b134, h135) =>
    (if b134 = true then (
    some (.inr (.nilp, 1, h135)))
    else (
    L53_2 N n (x126, x127, x128, x129, (IntKind.i64.wrap (x130 + 1)), h135))))
    else (
    some (.inl (x127, h131))))
noncomputable def F53 (N : Nat) : V × V × V × H → Option (V × Int × H)
  | (a0, a1, a2, h) =>
    (slen a0).bind fun n1 =>
    (F23 N (n1, h)).bind fun (x2, x3, h4) =>
    (if (x3 != 0) = true then (
    some (true, h4))
    else (
    (slen a2).bind fun n7 =>
    (slen a1).bind fun n8 =>
    some ((n7 != n8), h4))).bind fun (b5, h6) =>
    (if b5 = true then (
    some (.nilp, 1, h6))
    else (
    (slen a0).bind fun n9 =>
    (L53_0 N N (a0, a1, a2, x2, a0, n9, 0, h6)).bind fun o40 => match o40 with
    | .inl (x41, x42, x43, x44, h45) => (
    (slen x42).bind fun n46 =>
    (L53_1 N N (x41, x42, x43, x44, x42, n46, 0, h45)).bind fun o105 => match o105 with
    | .inl (x106, x107, x108, h109) => (
    (slen x107).bind fun n110 =>
    (L53_2 N N (x106, x108, x107, n110, 0, h109)).bind fun o141 => match o141 with
    | .inl (x142, h143) => (
    some (x142, 0, h143))
    | .inr (x144, x145, h146) => (
    some (x144, x145, h146)))
    | .inr (x147, x148, h149) => (
    some (x147, x148, h149)))
    | .inr (x150, x151, h152) => (
    some (x150, x151, h152))))
abbrev ks53 : List SK := [.one .ref, .one .ref, .one .ref]
abbrev rs53 : List SK := [.one .ref, .one (.int .i64)]
noncomputable def e53 (N : Nat) : Env := ⟨Try.prog, 130, inTab [13], inTab [], natTab [(13, 13), (60, 13), (64, 13), (80, 13), (86, 13), (91, 13), (94, 13), (104, 13)], inTab [], calTab [(23, .full (mkFun ks23 rs23 (F23 N))), (28, .full (mkFun ks28 rs28 (F28 N)))], altTab [], loopTab [(5, ⟨⟨.normal, [0, 1, 2, 8, 31, 32, 33], [.one .ref, .one .ref, .one .ref, .one .ref, .one .ref, .one (.int .i64), .one (.int .i64)], [], []⟩, [⟨(.exit 0), [0, 1, 2, 8], [.one .ref, .one .ref, .one .ref, .one .ref], [], []⟩, ⟨.ret, [6, 7], [.one .ref, .one (.int .i64)], [], []⟩], L53_0 N⟩), (12, ⟨⟨.normal, [0, 1, 2, 8, 53, 54, 55], [.one .ref, .one .ref, .one .ref, .one .ref, .one .ref, .one (.int .i64), .one (.int .i64)], [], []⟩, [⟨(.exit 2), [1, 2, 8], [.one .ref, .one .ref, .one .ref], [], []⟩, ⟨.ret, [6, 7], [.one .ref, .one (.int .i64)], [], []⟩], L53_1 N⟩), (19, ⟨⟨.normal, [1, 8, 109, 110, 111], [.one .ref, .one .ref, .one .ref, .one (.int .i64), .one (.int .i64)], [], []⟩, [⟨(.exit 4), [8], [.one .ref], [], []⟩, ⟨.ret, [6, 7], [.one .ref, .one (.int .i64)], [], []⟩], L53_2 N⟩)], natTab []⟩
theorem l53_0 (N : Nat) : ∀ A, (e53 N).lp (lid (loopAt Try.f53 0)) = some A → LoopOk (e53 N) N (loopAt Try.f53 0) A :=
  loopOk_of (A := ⟨⟨.normal, [0, 1, 2, 8, 31, 32, 33], [.one .ref, .one .ref, .one .ref, .one .ref, .one .ref, .one (.int .i64), .one (.int .i64)], [], []⟩, [⟨(.exit 0), [0, 1, 2, 8], [.one .ref, .one .ref, .one .ref, .one .ref], [], []⟩, ⟨.ret, [6, 7], [.one .ref, .one (.int .i64)], [], []⟩], L53_0 N⟩) (by kernel_rfl) (fun _ => rfl) (fun _ _ => by kernel_rfl)
theorem l53_1 (N : Nat) : ∀ A, (e53 N).lp (lid (loopAt Try.f53 1)) = some A → LoopOk (e53 N) N (loopAt Try.f53 1) A :=
  loopOk_of (A := ⟨⟨.normal, [0, 1, 2, 8, 53, 54, 55], [.one .ref, .one .ref, .one .ref, .one .ref, .one .ref, .one (.int .i64), .one (.int .i64)], [], []⟩, [⟨(.exit 2), [1, 2, 8], [.one .ref, .one .ref, .one .ref], [], []⟩, ⟨.ret, [6, 7], [.one .ref, .one (.int .i64)], [], []⟩], L53_1 N⟩) (by kernel_rfl) (fun _ => rfl) (fun _ _ => by kernel_rfl)
theorem l53_2 (N : Nat) : ∀ A, (e53 N).lp (lid (loopAt Try.f53 2)) = some A → LoopOk (e53 N) N (loopAt Try.f53 2) A :=
  loopOk_of (A := ⟨⟨.normal, [1, 8, 109, 110, 111], [.one .ref, .one .ref, .one .ref, .one (.int .i64), .one (.int .i64)], [], []⟩, [⟨(.exit 4), [8], [.one .ref], [], []⟩, ⟨.ret, [6, 7], [.one .ref, .one (.int .i64)], [], []⟩], L53_2 N⟩) (by kernel_rfl) (fun _ => rfl) (fun _ _ => by kernel_rfl)
theorem fine53 (N : Nat) : Fine (e53 N) N 53 Try.f53 ks53 rs53 (F53 N) :=
  ⟨Try.func53, by kernel_rfl, by kernel_rfl, by kernel_rfl, loops_of ⟨l53_0 N, ⟨l53_1 N, ⟨l53_2 N, trivial⟩⟩⟩, by kernel_rfl, by kernel_rfl, fun _ => by kernel_rfl⟩
theorem good53 (N : Nat) : Go.L.Good (e53 N) := good_of ⟨gd23 N, ⟨gd28 N, trivial⟩⟩
theorem gd53 (N : Nat) : CalOk Try.prog 53 (.full (mkFun ks53 rs53 (F53 N))) := mkFun_good (fine53 N) (good53 N)

/-! ### 71: carouselref14.Where -/
noncomputable def L71_0 (N : Nat) : Nat → ByteArray × Int × Int × V × V × V × Int × Int × Int × Int × H → Option ((Int × Int × Int × Int × H) ⊕ (Int × Int × Int × H))
  | 0, _ => none
  | n + 1, (x22, x23, x24, x25, x26, x27, x28, x29, x30, x31, h32) =>
    (if (decide (x23 < x24)) = true then (
    (sidx x26 x23 1).bind fun q33 =>
    (L.asBool (rd h32 q33 0)).bind fun x34 =>
    (if x34 = true then (
    some ((!((x22).toList == ((ByteArray.mk #[])).toList)), h32))
    else (
    some (false, h32))).bind fun (b35, h36) =>
    (if b35 = true then (
    (sidx x27 x23 1).bind fun q39 =>
    (L.asStr (rd h36 q39 0)).bind fun x40 =>
    some (((x40).toList == (x22).toList), h36))
    else (
    some (false, h36))).bind fun (b37, h38) =>
    (if b37 = true then (
    (sidx x25 x23 1).bind fun q41 =>
    (L.asInt .i64 (rd h38 q41 0)).bind fun x42 =>
    some (.inr (0, x23, x42, h38)))
    else (
    L71_0 N n (x22, (IntKind.i64.wrap (x23 + 1)), x24, x25, x26, x27, x28, x29, x30, x31, h38))))
    else (
    some (.inl (x28, x29, x30, x31, h32))))
noncomputable def F71 (N : Nat) : Int × V × V × V × ByteArray × H → Option (Int × Int × Int × H)
  | (a0_0, a0_1, a0_2, a0_3, a1, h) =>
    (L71_0 N N (a1, 0, a0_0, a0_1, a0_2, a0_3, 0, 0, 0, 0, h)).bind fun o43 => match o43 with
    | .inl (x44, x45, x46, x47, h48) => (
    some (x46, x47, 3, h48))
    | .inr (x49, x50, x51, h52) => (
    some (x50, x51, x49, h52))
abbrev ks71 : List SK := [.agg [(.int .i64), .ref, .ref, .ref], .one .str]
abbrev rs71 : List SK := [.agg [(.int .i64), (.int .i64)], .one (.int .i64)]
noncomputable def e71 (N : Nat) : Env := ⟨Try.prog, 40, inTab [2, 4, 6], inTab [], natTab [(2, 2), (4, 4), (6, 6), (9, 2), (14, 2), (24, 2), (33, 2)], inTab [], calTab [], altTab [], loopTab [(3, ⟨⟨.normal, [1, 2, 4, 6, 7], [.one .str, .lp 2 0, .lp 4 0, .lp 6 0, .one (.int .i64)], [2, 4, 6], [.cells [(.int .i64), .ref, .ref, .ref], .cells [(.int .i64), (.int .i64)], .cells [(.int .i64), (.int .i64)]]⟩, [⟨(.exit 0), [4, 6], [.lp 4 0, .lp 6 0], [4, 6], [.cells [(.int .i64), (.int .i64)], .cells [(.int .i64), (.int .i64)]]⟩, ⟨.ret, [4, 5], [.lp 4 0, .one (.int .i64)], [4], [.cells [(.int .i64), (.int .i64)]]⟩], L71_0 N⟩)], natTab []⟩
theorem l71_0 (N : Nat) : ∀ A, (e71 N).lp (lid (loopAt Try.f71 0)) = some A → LoopOk (e71 N) N (loopAt Try.f71 0) A :=
  loopOk_of (A := ⟨⟨.normal, [1, 2, 4, 6, 7], [.one .str, .lp 2 0, .lp 4 0, .lp 6 0, .one (.int .i64)], [2, 4, 6], [.cells [(.int .i64), .ref, .ref, .ref], .cells [(.int .i64), (.int .i64)], .cells [(.int .i64), (.int .i64)]]⟩, [⟨(.exit 0), [4, 6], [.lp 4 0, .lp 6 0], [4, 6], [.cells [(.int .i64), (.int .i64)], .cells [(.int .i64), (.int .i64)]]⟩, ⟨.ret, [4, 5], [.lp 4 0, .one (.int .i64)], [4], [.cells [(.int .i64), (.int .i64)]]⟩], L71_0 N⟩) (by kernel_rfl) (fun _ => rfl) (fun _ _ => by kernel_rfl)
theorem fine71 (N : Nat) : Fine (e71 N) N 71 Try.f71 ks71 rs71 (F71 N) :=
  ⟨Try.func71, by kernel_rfl, by kernel_rfl, by kernel_rfl, loops_of ⟨l71_0 N, trivial⟩, by kernel_rfl, by kernel_rfl, fun _ => by kernel_rfl⟩
theorem good71 (N : Nat) : Go.L.Good (e71 N) := good_of trivial
theorem gd71 (N : Nat) : CalOk Try.prog 71 (.ro (mkFun ks71 rs71 (F71 N))) := mkFun_ro (fine71 N) (good71 N) (by kernel_rfl)

/-! ### 83: carouselref03.lower -/
noncomputable def F83 (N : Nat) : Int × H → Option (Bool × H)
  | (a0, h) =>
    (if (decide (a0 ≥ 97)) = true then (
    some ((decide (a0 ≤ 122)), h))
    else (
    some (false, h))).bind fun (b1, h2) =>
    some (b1, h2)
abbrev ks83 : List SK := [.one (.int .u8)]
abbrev rs83 : List SK := [.one .bool]
noncomputable def e83 (N : Nat) : Env := ⟨Try.prog, 9, inTab [], inTab [], natTab [], inTab [], calTab [], altTab [], loopTab [], natTab []⟩
theorem fine83 (N : Nat) : Fine (e83 N) N 83 Try.f83 ks83 rs83 (F83 N) :=
  ⟨Try.func83, by kernel_rfl, by kernel_rfl, by kernel_rfl, loops_of trivial, by kernel_rfl, by kernel_rfl, fun _ => by kernel_rfl⟩
theorem good83 (N : Nat) : Go.L.Good (e83 N) := good_of trivial
theorem gd83 : CalOk Try.prog 83 (.pure (mkP ks83 rs83 (F83 100))) := mkP_good (fine83 100) (good83 100) (by kernel_rfl) (by kernel_rfl)

/-! ### 72: carouselref03.Atom -/
noncomputable def L72_0 (N : Nat) : Nat → ByteArray × Int × H → Option ((H) ⊕ (Bool × H))
  | 0, _ => none
  | n + 1, (x28, x29, h30) =>
    (if (decide (x29 < ((x28).size : Int))) = true then (
    (if 0 ≤ x29 then (x28[Int.toNat x29]?.bind fun c31 =>
    (F83 100 (((UInt8.toNat c31 : Nat) : Int), [])).bind fun (x32, _) =>
    (if (!x32) = true then (
    (if (decide (((UInt8.toNat c31 : Nat) : Int) ≥ 65)) = true then (
    some ((decide (((UInt8.toNat c31 : Nat) : Int) ≤ 90)), h30))
    else (
    some (false, h30))).bind fun (b35, h36) =>
    some ((!b35), h36))
    else (
    some (false, h30))).bind fun (b33, h34) =>
    (if b33 = true then (
    (if (decide (((UInt8.toNat c31 : Nat) : Int) ≥ 48)) = true then (
    some ((decide (((UInt8.toNat c31 : Nat) : Int) ≤ 57)), h34))
    else (
    some (false, h34))).bind fun (b39, h40) =>
    some ((!b39), h40))
    else (
    some (false, h34))).bind fun (b37, h38) =>
    (if b37 = true then (
    some ((((UInt8.toNat c31 : Nat) : Int) != 95), h38))
    else (
    some (false, h38))).bind fun (b41, h42) =>
    (if b41 = true then (
    some (.inr (false, h42)))
    else (
    L72_0 N n (x28, (IntKind.i64.wrap (x29 + 1)), h42)))) else none))
    else (
    some (.inl h30)))
noncomputable def F72 (N : Nat) : ByteArray × H → Option (Bool × H)
  | (a0, h) =>
    (if (decide (((a0).size : Int) < 1)) = true then (
    some (true, h))
    else (
    some ((decide (((a0).size : Int) > 64)), h))).bind fun (b1, h2) =>
    (if b1 = true then (
    some (true, h2))
    else (
    (if 0 ≤ 0 then (a0[Int.toNat 0]?.bind fun c5 =>
    (F83 100 (((UInt8.toNat c5 : Nat) : Int), [])).bind fun (x6, _) =>
    some ((!x6), h2)) else none))).bind fun (b3, h4) =>
    (if b3 = true then (
    some (true, h4))
    else (
    some (((a0).toList == ((ByteArray.mk #[110, 105, 108])).toList), h4))).bind fun (b7, h8) =>
    (if b7 = true then (
    some (true, h8))
    else (
    some (((a0).toList == ((ByteArray.mk #[116, 114, 117, 101])).toList), h8))).bind fun (b9, h10) =>
    (if b9 = true then (
    some (true, h10))
    else (
    some (((a0).toList == ((ByteArray.mk #[102, 97, 108, 115, 101])).toList), h10))).bind fun (b11, h12) =>
    (if b11 = true then (
    some (false, h12))
    else (
    (L72_0 N N (a0, 0, h12)).bind fun o43 => match o43 with
    | .inl h44 => (
    some (true, h44))
    | .inr (x45, h46) => (
    some (x45, h46))))
abbrev ks72 : List SK := [.one .str]
abbrev rs72 : List SK := [.one .bool]
noncomputable def e72 (N : Nat) : Env := ⟨Try.prog, 65, inTab [], inTab [], natTab [], inTab [], calTab [(83, .pure (mkP ks83 rs83 (F83 100)))], altTab [], loopTab [(4, ⟨⟨.normal, [0, 3], [.one .str, .one (.int .i64)], [], []⟩, [⟨(.exit 0), [], [], [], []⟩, ⟨.ret, [2], [.one .bool], [], []⟩], L72_0 N⟩)], natTab []⟩
theorem l72_0 (N : Nat) : ∀ A, (e72 N).lp (lid (loopAt Try.f72 0)) = some A → LoopOk (e72 N) N (loopAt Try.f72 0) A :=
  loopOk_of (A := ⟨⟨.normal, [0, 3], [.one .str, .one (.int .i64)], [], []⟩, [⟨(.exit 0), [], [], [], []⟩, ⟨.ret, [2], [.one .bool], [], []⟩], L72_0 N⟩) (by kernel_rfl) (fun _ => rfl) (fun _ _ => by kernel_rfl)
theorem fine72 (N : Nat) : Fine (e72 N) N 72 Try.f72 ks72 rs72 (F72 N) :=
  ⟨Try.func72, by kernel_rfl, by kernel_rfl, by kernel_rfl, loops_of ⟨l72_0 N, trivial⟩, by kernel_rfl, by kernel_rfl, fun _ => by kernel_rfl⟩
theorem good72 (N : Nat) : Go.L.Good (e72 N) := good_of ⟨gd83, trivial⟩
theorem gd72 : CalOk Try.prog 72 (.pure (mkP ks72 rs72 (F72 100))) := mkP_good (fine72 100) (good72 100) (by kernel_rfl) (by kernel_rfl)

/-! ### 54: carouselref14.Load -/
noncomputable def L54_0 (N : Nat) : Nat → V × V × V × Int × Int × V × V × V × Int × V × V × V × Int × V × V × V × H → Option ((V × V × V × Int × V × V × V × Int × V × V × V × Int × V × V × V × H) ⊕ (Int × Int × V × V × V × H))
  | 0, _ => none
  | n + 1, (x40, x41, x42, x43, x44, x45, x46, x47, x48, x49, x50, x51, x52, x53, x54, x55, h56) =>
    (slen x40).bind fun n57 =>
    (if (decide (x43 < n57)) = true then (
    (sidx x40 x43 1).bind fun q58 =>
    (L.asInt .i64 (rd h56 q58 0)).bind fun x59 =>
    (if (decide (x59 < 0)) = true then (
    some (true, h56))
    else (
    (sidx x40 x43 1).bind fun q62 =>
    (L.asInt .i64 (rd h56 q62 0)).bind fun x63 =>
    some ((decide (x63 > 4611686018427387903)), h56))).bind fun (b60, h61) =>
    (if b60 = true then (
    some (.inr (1, x48, x49, x50, x51, h61)))
    else (
    (sidx x40 x43 1).bind fun q64 =>
    (L.asInt .i64 (rd h61 q64 0)).bind fun x65 =>
    (sidx x53 x43 1).bind fun q66 =>
    (wr h61 q66 [(.int .i64 x65)]).bind fun h67 =>
    L54_0 N n (x40, x41, x42, (IntKind.i64.wrap (x43 + 1)), x44, x45, x46, x47, x48, x49, x50, x51, x52, x53, x54, x55, h67))))
    else (
    some (.inl (x40, x41, x42, x44, x45, x46, x47, x48, x49, x50, x51, x52, x53, x54, x55, h56))))
noncomputable def L54_1 (N : Nat) : Nat → V × V × V × Int × Int × V × V × V × Int × V × V × V × Int × V × V × V × H → Option ((Int × V × V × V × Int × V × V × V × H) ⊕ (Int × Int × V × V × V × H))
  | 0, _ => none
  | n + 1, (x165, x166, x167, x168, x169, x170, x171, x172, x173, x174, x175, x176, x177, x178, x179, x180, h181) =>
    (slen x166).bind fun n182 =>
    (if (decide (x168 < n182)) = true then (
    (sidx x166 x168 2).bind fun q183 =>
    (L.asInt .i64 (rd h181 q183 0)).bind fun x184 =>
    (L.asInt .i64 (rd h181 q183 1)).bind fun x185 =>
    (if (decide (x184 < 0)) = true then (
    some (true, h181))
    else (
    (slen x165).bind fun n188 =>
    some ((decide (x184 ≥ n188)), h181))).bind fun (b186, h187) =>
    (if b186 = true then (
    some (true, h187))
    else (
    (if (decide (x168 > 0)) = true then (
    (sidx x166 (IntKind.i64.wrap (x168 - 1)) 2).bind fun q193 =>
    (L.asInt .i64 (rd h187 (padd q193 0) 0)).bind fun x194 =>
    some ((decide (x194 ≥ x184)), h187))
    else (
    some (false, h187))).bind fun (b191, h192) =>
    some (b191, h192))).bind fun (b189, h190) =>
    (if b189 = true then (
    some (true, h190))
    else (
    some ((decide (x185 < 1)), h190))).bind fun (b195, h196) =>
    (if b195 = true then (
    some (true, h196))
    else (
    (sidx x165 x184 1).bind fun q199 =>
    (L.asInt .i64 (rd h196 q199 0)).bind fun x200 =>
    some ((x185 != x200), h196))).bind fun (b197, h198) =>
    (if b197 = true then (
    some (.inr (1, x173, x174, x175, x176, h198)))
    else (
    (sidx x167 x168 1).bind fun q201 =>
    (L.asStr (rd h198 q201 0)).bind fun x202 =>
    ((if (!((x202).toList == ((ByteArray.mk #[])).toList)) = true then (
    (sidx x167 x168 1).bind fun q203 =>
    (L.asStr (rd h198 q203 0)).bind fun x204 =>
    (F71 N (x177, x178, x179, x180, x204, h198)).bind fun (x205, x206, x207, _) =>
    (if (x207 == 0) = true then (
    some (true, h198))
    else (
    (sidx x167 x168 1).bind fun q210 =>
    (L.asStr (rd h198 q210 0)).bind fun x211 =>
    (F72 100 (x211, [])).bind fun (x212, _) =>
    some ((!x212), h198))).bind fun (b208, h209) =>
    (if b208 = true then (
    some (.inr (1, x173, x174, x175, x176, h209)))
    else (
    some (.inl (x165, x166, x167, x168, x169, x170, x171, x172, x173, x174, x175, x176, x177, x178, x179, x180, x184, x185, h209)))))
    else (
    some (.inl (x165, x166, x167, x168, x169, x170, x171, x172, x173, x174, x175, x176, x177, x178, x179, x180, x184, x185, h198)))) : Option ((V × V × V × Int × Int × V × V × V × Int × V × V × V × Int × V × V × V × Int × Int × H) ⊕ (Int × Int × V × V × V × H))).bind fun o213 => match o213 with
    | .inl (x214, x215, x216, x217, x218, x219, x220, x221, x222, x223, x224, x225, x226, x227, x228, x229, x230, x231, h232) => (
    (sidx x228 x230 1).bind fun q233 =>
    (wr h232 q233 [(.bool true)]).bind fun h234 =>
    (sidx x216 x217 1).bind fun q235 =>
    (L.asStr (rd h234 q235 0)).bind fun x236 =>
    (sidx x229 x230 1).bind fun q237 =>
    (wr h234 q237 [(.str x236)]).bind fun h238 =>
    L54_1 N n (x214, x215, x216, (IntKind.i64.wrap (x217 + 1)), x218, x219, x220, x221, x222, x223, x224, x225, x226, x227, x228, x229, h238))
    | .inr (x239, x240, x241, x242, x243, h244) => (
    some (.inr (x239, x240, x241, x242, x243, h244))))))
    else (
    some (.inl (x169, x170, x171, x172, x177, x178, x179, x180, h181))))
noncomputable def F54 (N : Nat) : V × V × V × H → Option (Int × V × V × V × Int × H)
  | (a0, a1, a2, h) =>
    (slen a0).bind fun n1 =>
    (F31 N (n1, h)).bind fun (x2, x3, x4, x5, x6, h7) =>
    (if (x6 != 0) = true then (
    some (true, h7))
    else (
    (slen a1).bind fun n10 =>
    (slen a2).bind fun n11 =>
    some ((n10 != n11), h7))).bind fun (b8, h9) =>
    (if b8 = true then (
    some (0, .nils, .nils, .nils, 1, h9))
    else (
    (L54_0 N N (a0, a1, a2, 0, 0, .nils, .nils, .nils, 0, .nils, .nils, .nils, x2, x3, x4, x5, h9)).bind fun o68 => match o68 with
    | .inl (x69, x70, x71, x72, x73, x74, x75, x76, x77, x78, x79, x80, x81, x82, x83, h84) => (
    (L54_1 N N (x69, x70, x71, 0, x72, x73, x74, x75, x76, x77, x78, x79, x80, x81, x82, x83, h84)).bind fun o245 => match o245 with
    | .inl (x246, x247, x248, x249, x250, x251, x252, x253, h254) => (
    some (x250, x251, x252, x253, 0, h254))
    | .inr (x255, x256, x257, x258, x259, h260) => (
    some (x256, x257, x258, x259, x255, h260)))
    | .inr (x261, x262, x263, x264, x265, h266) => (
    some (x262, x263, x264, x265, x261, h266))))
abbrev ks54 : List SK := [.one .ref, .one .ref, .one .ref]
abbrev rs54 : List SK := [.agg [(.int .i64), .ref, .ref, .ref], .one (.int .i64)]
noncomputable def e54 (N : Nat) : Env := ⟨Try.prog, 150, inTab [6, 8, 9, 13, 14], inTab [], natTab [(6, 6), (8, 8), (9, 9), (13, 13), (14, 14), (51, 9), (69, 13), (73, 13), (89, 13), (95, 13), (100, 13), (103, 13), (135, 9), (137, 13), (140, 9), (142, 13)], inTab [], calTab [(31, .full (mkFun ks31 rs31 (F31 N))), (71, .ro (mkFun ks71 rs71 (F71 N))), (72, .pure (mkP ks72 rs72 (F72 100)))], altTab [(1179762, [⟨.normal, [0, 1, 2, 6, 8, 9, 12, 13], [.one .ref, .one .ref, .one .ref, .lp 6 0, .lp 8 0, .lp 9 0, .one (.int .i64), .lp 13 0], [6, 8, 9, 13], [.cells [(.int .i64), .ref, .ref, .ref], .cells [(.int .i64), .ref, .ref, .ref], .cells [(.int .i64), .ref, .ref, .ref], .cells [(.int .i64), (.int .i64)]]⟩, ⟨.ret, [6, 7], [.lp 6 0, .one (.int .i64)], [6], [.cells [(.int .i64), .ref, .ref, .ref]]⟩])], loopTab [(6, ⟨⟨.normal, [0, 1, 2, 6, 8, 9, 11], [.one .ref, .one .ref, .one .ref, .lp 6 0, .lp 8 0, .lp 9 0, .one (.int .i64)], [6, 8, 9], [.cells [(.int .i64), .ref, .ref, .ref], .cells [(.int .i64), .ref, .ref, .ref], .cells [(.int .i64), .ref, .ref, .ref]]⟩, [⟨(.exit 0), [0, 1, 2, 6, 8, 9], [.one .ref, .one .ref, .one .ref, .lp 6 0, .lp 8 0, .lp 9 0], [6, 8, 9], [.cells [(.int .i64), .ref, .ref, .ref], .cells [(.int .i64), .ref, .ref, .ref], .cells [(.int .i64), .ref, .ref, .ref]]⟩, ⟨.ret, [6, 7], [.lp 6 0, .one (.int .i64)], [6], [.cells [(.int .i64), .ref, .ref, .ref]]⟩], L54_0 N⟩), (12, ⟨⟨.normal, [0, 1, 2, 6, 8, 9, 12], [.one .ref, .one .ref, .one .ref, .lp 6 0, .lp 8 0, .lp 9 0, .one (.int .i64)], [6, 8, 9], [.cells [(.int .i64), .ref, .ref, .ref], .cells [(.int .i64), .ref, .ref, .ref], .cells [(.int .i64), .ref, .ref, .ref]]⟩, [⟨(.exit 2), [6, 9], [.lp 6 0, .lp 9 0], [6, 9], [.cells [(.int .i64), .ref, .ref, .ref], .cells [(.int .i64), .ref, .ref, .ref]]⟩, ⟨.ret, [6, 7], [.lp 6 0, .one (.int .i64)], [6], [.cells [(.int .i64), .ref, .ref, .ref]]⟩], L54_1 N⟩)], natTab []⟩
theorem l54_0 (N : Nat) : ∀ A, (e54 N).lp (lid (loopAt Try.f54 0)) = some A → LoopOk (e54 N) N (loopAt Try.f54 0) A :=
  loopOk_of (A := ⟨⟨.normal, [0, 1, 2, 6, 8, 9, 11], [.one .ref, .one .ref, .one .ref, .lp 6 0, .lp 8 0, .lp 9 0, .one (.int .i64)], [6, 8, 9], [.cells [(.int .i64), .ref, .ref, .ref], .cells [(.int .i64), .ref, .ref, .ref], .cells [(.int .i64), .ref, .ref, .ref]]⟩, [⟨(.exit 0), [0, 1, 2, 6, 8, 9], [.one .ref, .one .ref, .one .ref, .lp 6 0, .lp 8 0, .lp 9 0], [6, 8, 9], [.cells [(.int .i64), .ref, .ref, .ref], .cells [(.int .i64), .ref, .ref, .ref], .cells [(.int .i64), .ref, .ref, .ref]]⟩, ⟨.ret, [6, 7], [.lp 6 0, .one (.int .i64)], [6], [.cells [(.int .i64), .ref, .ref, .ref]]⟩], L54_0 N⟩) (by kernel_rfl) (fun _ => rfl) (fun _ _ => by kernel_rfl)
theorem l54_1 (N : Nat) : ∀ A, (e54 N).lp (lid (loopAt Try.f54 1)) = some A → LoopOk (e54 N) N (loopAt Try.f54 1) A :=
  loopOk_of (A := ⟨⟨.normal, [0, 1, 2, 6, 8, 9, 12], [.one .ref, .one .ref, .one .ref, .lp 6 0, .lp 8 0, .lp 9 0, .one (.int .i64)], [6, 8, 9], [.cells [(.int .i64), .ref, .ref, .ref], .cells [(.int .i64), .ref, .ref, .ref], .cells [(.int .i64), .ref, .ref, .ref]]⟩, [⟨(.exit 2), [6, 9], [.lp 6 0, .lp 9 0], [6, 9], [.cells [(.int .i64), .ref, .ref, .ref], .cells [(.int .i64), .ref, .ref, .ref]]⟩, ⟨.ret, [6, 7], [.lp 6 0, .one (.int .i64)], [6], [.cells [(.int .i64), .ref, .ref, .ref]]⟩], L54_1 N⟩) (by kernel_rfl) (fun _ => rfl) (fun _ _ => by kernel_rfl)
theorem fine54 (N : Nat) : Fine (e54 N) N 54 Try.f54 ks54 rs54 (F54 N) :=
  ⟨Try.func54, by kernel_rfl, by kernel_rfl, by kernel_rfl, loops_of ⟨l54_0 N, ⟨l54_1 N, trivial⟩⟩, by kernel_rfl, by kernel_rfl, fun _ => by kernel_rfl⟩
theorem good54 (N : Nat) : Go.L.Good (e54 N) := good_of ⟨gd31 N, ⟨gd71 N, ⟨gd72, trivial⟩⟩⟩
theorem gd54 (N : Nat) : CalOk Try.prog 54 (.full (mkFun ks54 rs54 (F54 N))) := mkFun_good (fine54 N) (good54 N)

/-! ### 73: carouselref02.Alike -/
noncomputable def L73_0 (N : Nat) : Nat → V × V × Int × H → Option ((H) ⊕ (Bool × H))
  | 0, _ => none
  | n + 1, (x12, x13, x14, h15) =>
    (slen x12).bind fun n16 =>
    (if (decide (x14 < n16)) = true then (
    (sidx x12 x14 1).bind fun q17 =>
    (L.asInt .i64 (rd h15 q17 0)).bind fun x18 =>
    (sidx x13 x14 1).bind fun q19 =>
    (L.asInt .i64 (rd h15 q19 0)).bind fun x20 =>
    (if (x18 != x20) = true then (
    some (.inr (false, h15)))
    else (
    L73_0 N n (x12, x13, (IntKind.i64.wrap (x14 + 1)), h15))))
    else (
    some (.inl h15)))
noncomputable def F73 (N : Nat) : V × V × H → Option (Bool × H)
  | (a0, a1, h) =>
    (slen a0).bind fun n1 =>
    (slen a1).bind fun n2 =>
    (if (n1 != n2) = true then (
    some (false, h))
    else (
    (L73_0 N N (a0, a1, 0, h)).bind fun o21 => match o21 with
    | .inl h22 => (
    some (true, h22))
    | .inr (x23, h24) => (
    some (x23, h24))))
abbrev ks73 : List SK := [.one .ref, .one .ref]
abbrev rs73 : List SK := [.one .bool]
noncomputable def e73 (N : Nat) : Env := ⟨Try.prog, 26, inTab [], inTab [], natTab [], inTab [], calTab [], altTab [], loopTab [(4, ⟨⟨.normal, [0, 1, 5], [.one .ref, .one .ref, .one (.int .i64)], [], []⟩, [⟨(.exit 0), [], [], [], []⟩, ⟨.ret, [4], [.one .bool], [], []⟩], L73_0 N⟩)], natTab []⟩
theorem l73_0 (N : Nat) : ∀ A, (e73 N).lp (lid (loopAt Try.f73 0)) = some A → LoopOk (e73 N) N (loopAt Try.f73 0) A :=
  loopOk_of (A := ⟨⟨.normal, [0, 1, 5], [.one .ref, .one .ref, .one (.int .i64)], [], []⟩, [⟨(.exit 0), [], [], [], []⟩, ⟨.ret, [4], [.one .bool], [], []⟩], L73_0 N⟩) (by kernel_rfl) (fun _ => rfl) (fun _ _ => by kernel_rfl)
theorem fine73 (N : Nat) : Fine (e73 N) N 73 Try.f73 ks73 rs73 (F73 N) :=
  ⟨Try.func73, by kernel_rfl, by kernel_rfl, by kernel_rfl, loops_of ⟨l73_0 N, trivial⟩, by kernel_rfl, by kernel_rfl, fun _ => by kernel_rfl⟩
theorem good73 (N : Nat) : Go.L.Good (e73 N) := good_of trivial
theorem gd73 (N : Nat) : CalOk Try.prog 73 (.ro (mkFun ks73 rs73 (F73 N))) := mkFun_ro (fine73 N) (good73 N) (by kernel_rfl)

/-! ### 55: carouselref02.Kept -/
noncomputable def L55_0 (N : Nat) : Nat → V × V × V × Int × H → Option ((V × V × H) ⊕ (Bool × H))
  | 0, _ => none
  | n + 1, (x12, x13, x14, x15, h16) =>
    (if (decide (x15 < 70)) = true then (
    (slen x13).bind fun n17 =>
    (sidx x14 (IntKind.i64.wrap (n17 + x15)) 1).bind fun q18 =>
    (L.asInt .i64 (rd h16 q18 0)).bind fun x19 =>
    (if (x19 != (IntKind.i64.wrap ((-770000) - x15))) = true then (
    some (.inr (false, h16)))
    else (
    L55_0 N n (x12, x13, x14, (IntKind.i64.wrap (x15 + 1)), h16))))
    else (
    some (.inl (x12, x13, h16))))
noncomputable def F55 (N : Nat) : V × V × H → Option (Bool × H)
  | (a0, a1, h) =>
    (slen a1).bind fun n1 =>
    (slen a0).bind fun n2 =>
    (ssl 1 a0 0 (IntKind.i64.wrap (n1 + 70))).bind fun v3 =>
    (L55_0 N N (a0, a1, v3, 0, h)).bind fun o20 => match o20 with
    | .inl (x21, x22, h23) => (
    (F73 N (x21, x22, h23)).bind fun (x24, _) =>
    some (x24, h23))
    | .inr (x25, h26) => (
    some (x25, h26))
abbrev ks55 : List SK := [.one .ref, .one .ref]
abbrev rs55 : List SK := [.one .bool]
noncomputable def e55 (N : Nat) : Env := ⟨Try.prog, 29, inTab [], inTab [], natTab [], inTab [], calTab [(73, .ro (mkFun ks73 rs73 (F73 N)))], altTab [], loopTab [(3, ⟨⟨.normal, [0, 1, 5, 6], [.one .ref, .one .ref, .one .ref, .one (.int .i64)], [], []⟩, [⟨(.exit 0), [0, 1], [.one .ref, .one .ref], [], []⟩, ⟨.ret, [4], [.one .bool], [], []⟩], L55_0 N⟩)], natTab []⟩
theorem l55_0 (N : Nat) : ∀ A, (e55 N).lp (lid (loopAt Try.f55 0)) = some A → LoopOk (e55 N) N (loopAt Try.f55 0) A :=
  loopOk_of (A := ⟨⟨.normal, [0, 1, 5, 6], [.one .ref, .one .ref, .one .ref, .one (.int .i64)], [], []⟩, [⟨(.exit 0), [0, 1], [.one .ref, .one .ref], [], []⟩, ⟨.ret, [4], [.one .bool], [], []⟩], L55_0 N⟩) (by kernel_rfl) (fun _ => rfl) (fun _ _ => by kernel_rfl)
theorem fine55 (N : Nat) : Fine (e55 N) N 55 Try.f55 ks55 rs55 (F55 N) :=
  ⟨Try.func55, by kernel_rfl, by kernel_rfl, by kernel_rfl, loops_of ⟨l55_0 N, trivial⟩, by kernel_rfl, by kernel_rfl, fun _ => by kernel_rfl⟩
theorem good55 (N : Nat) : Go.L.Good (e55 N) := good_of ⟨gd73 N, trivial⟩
theorem gd55 (N : Nat) : CalOk Try.prog 55 (.ro (mkFun ks55 rs55 (F55 N))) := mkFun_ro (fine55 N) (good55 N) (by kernel_rfl)

/-! ### 56: carouselref14.SamePids -/
noncomputable def L56_0 (N : Nat) : Nat → V × V × Int × H → Option ((H) ⊕ (Bool × H))
  | 0, _ => none
  | n + 1, (x14, x15, x16, h17) =>
    (slen x14).bind fun n18 =>
    (if (decide (x16 < n18)) = true then (
    (sidx x14 x16 2).bind fun q19 =>
    (L.asInt .i64 (rd h17 q19 0)).bind fun x20 =>
    (L.asInt .i64 (rd h17 q19 1)).bind fun x21 =>
    (sidx x15 x16 2).bind fun q22 =>
    (L.asInt .i64 (rd h17 q22 0)).bind fun x23 =>
    (L.asInt .i64 (rd h17 q22 1)).bind fun x24 =>
    (if (!((x20 == x23) && ((x21 == x24) && true))) = true then (
    some (.inr (false, h17)))
    else (
    L56_0 N n (x14, x15, (IntKind.i64.wrap (x16 + 1)), h17))))
    else (
    some (.inl h17)))
noncomputable def F56 (N : Nat) : V × V × H → Option (Bool × H)
  | (a0, a1, h) =>
    (slen a0).bind fun n1 =>
    (slen a1).bind fun n2 =>
    (if (n1 != n2) = true then (
    some (false, h))
    else (
    (L56_0 N N (a0, a1, 0, h)).bind fun o25 => match o25 with
    | .inl h26 => (
    some (true, h26))
    | .inr (x27, h28) => (
    some (x27, h28))))
abbrev ks56 : List SK := [.one .ref, .one .ref]
abbrev rs56 : List SK := [.one .bool]
noncomputable def e56 (N : Nat) : Env := ⟨Try.prog, 26, inTab [], inTab [], natTab [], inTab [], calTab [], altTab [], loopTab [(4, ⟨⟨.normal, [0, 1, 5], [.one .ref, .one .ref, .one (.int .i64)], [], []⟩, [⟨(.exit 0), [], [], [], []⟩, ⟨.ret, [4], [.one .bool], [], []⟩], L56_0 N⟩)], natTab []⟩
theorem l56_0 (N : Nat) : ∀ A, (e56 N).lp (lid (loopAt Try.f56 0)) = some A → LoopOk (e56 N) N (loopAt Try.f56 0) A :=
  loopOk_of (A := ⟨⟨.normal, [0, 1, 5], [.one .ref, .one .ref, .one (.int .i64)], [], []⟩, [⟨(.exit 0), [], [], [], []⟩, ⟨.ret, [4], [.one .bool], [], []⟩], L56_0 N⟩) (by kernel_rfl) (fun _ => rfl) (fun _ _ => by kernel_rfl)
theorem fine56 (N : Nat) : Fine (e56 N) N 56 Try.f56 ks56 rs56 (F56 N) :=
  ⟨Try.func56, by kernel_rfl, by kernel_rfl, by kernel_rfl, loops_of ⟨l56_0 N, trivial⟩, by kernel_rfl, by kernel_rfl, fun _ => by kernel_rfl⟩
theorem good56 (N : Nat) : Go.L.Good (e56 N) := good_of trivial
theorem gd56 (N : Nat) : CalOk Try.prog 56 (.ro (mkFun ks56 rs56 (F56 N))) := mkFun_ro (fine56 N) (good56 N) (by kernel_rfl)

/-! ### 57: carouselref02.Marked -/
noncomputable def L57_0 (N : Nat) : Nat → V × Int × Int × H → Option (H)
  | 0, _ => none
  | n + 1, (x8, x9, x10, h11) =>
    (slen x8).bind fun n12 =>
    (if (decide (x10 < n12)) = true then (
    (sidx x8 x10 1).bind fun q13 =>
    (wr h11 q13 [(.int .i64 (IntKind.i64.wrap ((-1000000) - x9)))]).bind fun h14 =>
    L57_0 N n (x8, x9, (IntKind.i64.wrap (x10 + 1)), h14))
    else (
    some h11))
noncomputable def F57 (N : Nat) : V × Int × H → Option (H)
  | (a0, a1, h) =>
    (L57_0 N N (a0, a1, 0, h)).bind fun h15 =>
    some h15
abbrev ks57 : List SK := [.one .ref, .one (.int .i64)]
abbrev rs57 : List SK := []
noncomputable def e57 (N : Nat) : Env := ⟨Try.prog, 16, inTab [], inTab [], natTab [], inTab [], calTab [], altTab [], loopTab [(1, ⟨⟨.normal, [0, 1, 4], [.one .ref, .one (.int .i64), .one (.int .i64)], [], []⟩, [⟨(.exit 0), [], [], [], []⟩], L57_0 N⟩)], natTab []⟩
theorem l57_0 (N : Nat) : ∀ A, (e57 N).lp (lid (loopAt Try.f57 0)) = some A → LoopOk (e57 N) N (loopAt Try.f57 0) A :=
  loopOk_of (A := ⟨⟨.normal, [0, 1, 4], [.one .ref, .one (.int .i64), .one (.int .i64)], [], []⟩, [⟨(.exit 0), [], [], [], []⟩], L57_0 N⟩) (by kernel_rfl) (fun _ => rfl) (fun _ _ => by kernel_rfl)
theorem fine57 (N : Nat) : Fine (e57 N) N 57 Try.f57 ks57 rs57 (F57 N) :=
  ⟨Try.func57, by kernel_rfl, by kernel_rfl, by kernel_rfl, loops_of ⟨l57_0 N, trivial⟩, by kernel_rfl, by kernel_rfl, fun _ => by kernel_rfl⟩
theorem good57 (N : Nat) : Go.L.Good (e57 N) := good_of trivial
theorem gd57 (N : Nat) : CalOk Try.prog 57 (.full (mkFun ks57 rs57 (F57 N))) := mkFun_good (fine57 N) (good57 N)

/-! ### 74: carouselref14.copied -/
noncomputable def F74 (N : Nat) : Int × V × V × V × H → Option (Int × V × V × V × H)
  | (a0_0, a0_1, a0_2, a0_3, h) =>
    (scells h a0_1 1).bind fun cs3 =>
    (happ h .nils 1 (snlen a0_1) cs3).bind fun (v1, h2) =>
    (ck1 v1).bind fun _ =>
    (scells h2 a0_2 1).bind fun cs6 =>
    (happ h2 .nils 1 (snlen a0_2) cs6).bind fun (v4, h5) =>
    (ck1 v4).bind fun _ =>
    (scells h5 a0_3 1).bind fun cs9 =>
    (happ h5 .nils 1 (snlen a0_3) cs9).bind fun (v7, h8) =>
    (ck1 v7).bind fun _ =>
    some (a0_0, v1, v4, v7, h8)
abbrev ks74 : List SK := [.agg [(.int .i64), .ref, .ref, .ref]]
abbrev rs74 : List SK := [.agg [(.int .i64), .ref, .ref, .ref]]
noncomputable def e74 (N : Nat) : Env := ⟨Try.prog, 26, inTab [1, 2, 3], inTab [], natTab [(1, 1), (2, 2), (3, 3), (4, 1), (7, 3), (9, 1), (12, 3), (13, 3), (15, 1), (18, 3), (19, 3), (21, 1), (24, 3)], inTab [], calTab [], altTab [], loopTab [], natTab []⟩
theorem fine74 (N : Nat) : Fine (e74 N) N 74 Try.f74 ks74 rs74 (F74 N) :=
  ⟨Try.func74, by kernel_rfl, by kernel_rfl, by kernel_rfl, loops_of trivial, by kernel_rfl, by kernel_rfl, fun _ => by kernel_rfl⟩
theorem good74 (N : Nat) : Go.L.Good (e74 N) := good_of trivial
theorem gd74 (N : Nat) : CalOk Try.prog 74 (.full (mkFun ks74 rs74 (F74 N))) := mkFun_good (fine74 N) (good74 N)

/-! ### 58: carouselref14.Add -/
noncomputable def L58_0 (N : Nat) : Nat → Int × Int × V × V × V × Int × V × V × V × Int × Int × Int × Int × H → Option ((Int × V × V × V × Int × V × V × V × Int × Int × Int × Int × H) ⊕ (Int × Int × V × V × V × Int × Int × H))
  | 0, _ => none
  | n + 1, (x34, x35, x36, x37, x38, x39, x40, x41, x42, x43, x44, x45, x46, h47) =>
    (if (decide (x34 < x35)) = true then (
    (sidx x37 x34 1).bind fun q48 =>
    (L.asBool (rd h47 q48 0)).bind fun x49 =>
    (if (!x49) = true then (
    (sidx x36 x34 1).bind fun q52 =>
    (L.asInt .i64 (rd h47 q52 0)).bind fun x53 =>
    some ((decide (x53 < 4611686018427387903)), h47))
    else (
    some (false, h47))).bind fun (b50, h51) =>
    (if b50 = true then (
    (F74 N (x35, x36, x37, x38, h51)).bind fun (x54, x55, x56, x57, h58) =>
    (sidx x56 x34 1).bind fun q59 =>
    (wr h58 q59 [(.bool true)]).bind fun h60 =>
    (sidx x55 x34 1).bind fun q61 =>
    (L.asInt .i64 (rd h60 q61 0)).bind fun x62 =>
    (sidx x55 x34 1).bind fun q63 =>
    (wr h60 q63 [(.int .i64 (IntKind.i64.wrap (x62 + 1)))]).bind fun h64 =>
    (sidx x55 x34 1).bind fun q65 =>
    (L.asInt .i64 (rd h64 q65 0)).bind fun x66 =>
    some (.inr (0, x54, x55, x56, x57, x34, x66, h64)))
    else (
    L58_0 N n ((IntKind.i64.wrap (x34 + 1)), x35, x36, x37, x38, x39, x40, x41, x42, x43, x44, x45, x46, h51))))
    else (
    some (.inl (x35, x36, x37, x38, x39, x40, x41, x42, x43, x44, x45, x46, h47))))
noncomputable def F58 (N : Nat) : Int × V × V × V × H → Option (Int × V × V × V × Int × Int × Int × H)
  | (a0_0, a0_1, a0_2, a0_3, h) =>
    (L58_0 N N (0, a0_0, a0_1, a0_2, a0_3, 0, .nils, .nils, .nils, 0, 0, 0, 0, h)).bind fun o67 => match o67 with
    | .inl (x68, x69, x70, x71, x72, x73, x74, x75, x76, x77, x78, x79, h80) => (
    some (x68, x69, x70, x71, x78, x79, 140, h80))
    | .inr (x81, x82, x83, x84, x85, x86, x87, h88) => (
    some (x82, x83, x84, x85, x86, x87, x81, h88))
abbrev ks58 : List SK := [.agg [(.int .i64), .ref, .ref, .ref]]
abbrev rs58 : List SK := [.agg [(.int .i64), .ref, .ref, .ref], .agg [(.int .i64), (.int .i64)], .one (.int .i64)]
noncomputable def e58 (N : Nat) : Env := ⟨Try.prog, 54, inTab [1, 2, 3, 5, 7], inTab [], natTab [(1, 1), (2, 2), (3, 3), (5, 5), (7, 7), (9, 1), (14, 1), (21, 1), (30, 7), (34, 7), (37, 7), (46, 7)], inTab [], calTab [(74, .full (mkFun ks74 rs74 (F74 N)))], altTab [], loopTab [(3, ⟨⟨.normal, [1, 2, 3, 5, 6], [.lp 1 0, .lp 2 0, .lp 3 0, .lp 5 0, .one (.int .i64)], [1, 2, 3, 5], [.cells [(.int .i64), .ref, .ref, .ref], .cells [(.int .i64), .ref, .ref, .ref], .cells [(.int .i64), (.int .i64)], .cells [(.int .i64), (.int .i64)]]⟩, [⟨(.exit 0), [1, 2, 3, 5], [.lp 1 0, .lp 2 0, .lp 3 0, .lp 5 0], [1, 2, 3, 5], [.cells [(.int .i64), .ref, .ref, .ref], .cells [(.int .i64), .ref, .ref, .ref], .cells [(.int .i64), (.int .i64)], .cells [(.int .i64), (.int .i64)]]⟩, ⟨.ret, [2, 3, 4], [.lp 2 0, .lp 3 0, .one (.int .i64)], [2, 3], [.cells [(.int .i64), .ref, .ref, .ref], .cells [(.int .i64), (.int .i64)]]⟩], L58_0 N⟩)], natTab []⟩
theorem l58_0 (N : Nat) : ∀ A, (e58 N).lp (lid (loopAt Try.f58 0)) = some A → LoopOk (e58 N) N (loopAt Try.f58 0) A :=
  loopOk_of (A := ⟨⟨.normal, [1, 2, 3, 5, 6], [.lp 1 0, .lp 2 0, .lp 3 0, .lp 5 0, .one (.int .i64)], [1, 2, 3, 5], [.cells [(.int .i64), .ref, .ref, .ref], .cells [(.int .i64), .ref, .ref, .ref], .cells [(.int .i64), (.int .i64)], .cells [(.int .i64), (.int .i64)]]⟩, [⟨(.exit 0), [1, 2, 3, 5], [.lp 1 0, .lp 2 0, .lp 3 0, .lp 5 0], [1, 2, 3, 5], [.cells [(.int .i64), .ref, .ref, .ref], .cells [(.int .i64), .ref, .ref, .ref], .cells [(.int .i64), (.int .i64)], .cells [(.int .i64), (.int .i64)]]⟩, ⟨.ret, [2, 3, 4], [.lp 2 0, .lp 3 0, .one (.int .i64)], [2, 3], [.cells [(.int .i64), .ref, .ref, .ref], .cells [(.int .i64), (.int .i64)]]⟩], L58_0 N⟩) (by kernel_rfl) (fun _ => rfl) (fun _ _ => by kernel_rfl)
theorem fine58 (N : Nat) : Fine (e58 N) N 58 Try.f58 ks58 rs58 (F58 N) :=
  ⟨Try.func58, by kernel_rfl, by kernel_rfl, by kernel_rfl, loops_of ⟨l58_0 N, trivial⟩, by kernel_rfl, by kernel_rfl, fun _ => by kernel_rfl⟩
theorem good58 (N : Nat) : Go.L.Good (e58 N) := good_of ⟨gd74 N, trivial⟩
theorem gd58 (N : Nat) : CalOk Try.prog 58 (.full (mkFun ks58 rs58 (F58 N))) := mkFun_good (fine58 N) (good58 N)

/-! ### 11: carousellaw14.TableLoads -/
noncomputable def L11_0 (N : Nat) : Nat → V × V × V × Int × Int × V × V × V × H → Option (V × Int × V × V × V × H)
  | 0, _ => none
  | n + 1, (x46, x47, x48, x49, x50, x51, x52, x53, h54) =>
    (slen x46).bind fun n55 =>
    (if (decide (x49 < n55)) = true then (
    (sidx x46 x49 2).bind fun q56 =>
    (wr h54 q56 [(.int .i64 0), (.int .i64 0)]).bind fun h57 =>
    (sidx x47 x49 1).bind fun q58 =>
    (wr h57 q58 [(.str (ByteArray.mk #[115, 112, 111, 105, 108, 116]))]).bind fun h59 =>
    L11_0 N n (x46, x47, x48, (IntKind.i64.wrap (x49 + 1)), x50, x51, x52, x53, h59))
    else (
    some (x48, x50, x51, x52, x53, h54)))
noncomputable def F11 (N : Nat) : V × V × V × H → Option (Bool × H)
  | (a0, a1, a2, h) =>
    (F52 N (a0, h)).bind fun (x1, h2) =>
    (some (h2 ++ [O.cells 0 []]) : Option H).bind fun h3 =>
    (scells h3 a1 2).bind fun cs6 =>
    (happ h3 (.sl (h2).length 0 0 0 2 (some 0)) 2 (snlen a1) cs6).bind fun (v4, h5) =>
    (some (h5 ++ [O.cells 0 []]) : Option H).bind fun h7 =>
    (scells h7 a2 1).bind fun cs10 =>
    (happ h7 (.sl (h5).length 0 0 0 1 (some 0)) 1 (snlen a2) cs10).bind fun (v8, h9) =>
    (F53 N (x1, v4, v8, h9)).bind fun (x11, x12, h13) =>
    (F54 N (a0, a1, a2, h13)).bind fun (x14, x15, x16, x17, x18, h19) =>
    (if (x12 != x18) = true then (
    some (true, h19))
    else (
    (isNil x11).bind fun b22 =>
    some ((!((!b22) == (x18 == 0))), h19))).bind fun (b20, h21) =>
    (if b20 = true then (
    some (true, h21))
    else (
    (F55 N (x1, a0, h21)).bind fun (x25, _) =>
    some ((!x25), h21))).bind fun (b23, h24) =>
    (if b23 = true then (
    some (true, h24))
    else (
    (F56 N (v4, a1, h24)).bind fun (x28, _) =>
    some ((!x28), h24))).bind fun (b26, h27) =>
    (if b26 = true then (
    some (false, h27))
    else (
    (isNil x11).bind fun b29 =>
    (if b29 = true then (
    (F30 100 []).bind fun (x30, _) =>
    some (x30, h27))
    else (
    (F57 N (x1, 1, h27)).bind fun h31 =>
    (L11_0 N N (v4, v8, x11, 0, x14, x15, x16, x17, h31)).bind fun (x60, x61, x62, x63, x64, h65) =>
    (F24 N (x60, h65)).bind fun (x66, x67, x68, h69) =>
    (F58 N (x61, x62, x63, x64, h69)).bind fun (x70, x71, x72, x73, x74, x75, x76, h77) =>
    (if ((x66 == x74) && ((x67 == x75) && true)) = true then (
    some ((x68 == x76), h77))
    else (
    some (false, h77))).bind fun (b78, h79) =>
    (if b78 = true then (
    (F30 100 []).bind fun (x82, _) =>
    some (x82, h79))
    else (
    some (false, h79))).bind fun (b80, h81) =>
    some (b80, h81)))))
abbrev ks11 : List SK := [.one .ref, .one .ref, .one .ref]
abbrev rs11 : List SK := [.one .bool]
noncomputable def e11 (N : Nat) : Env := ⟨Try.prog, 104, inTab [12, 15, 17, 18], inTab [], natTab [(12, 12), (15, 15), (17, 17), (18, 18)], inTab [], calTab [(52, .full (mkFun ks52 rs52 (F52 N))), (53, .full (mkFun ks53 rs53 (F53 N))), (54, .full (mkFun ks54 rs54 (F54 N))), (55, .ro (mkFun ks55 rs55 (F55 N))), (56, .ro (mkFun ks56 rs56 (F56 N))), (30, .pure (mkP ks30 rs30 (F30 100))), (57, .full (mkFun ks57 rs57 (F57 N))), (24, .full (mkFun ks24 rs24 (F24 N))), (58, .full (mkFun ks58 rs58 (F58 N)))], altTab [], loopTab [(10, ⟨⟨.normal, [8, 9, 10, 12, 14], [.one .ref, .one .ref, .one .ref, .lp 12 0, .one (.int .i64)], [12], [.cells [(.int .i64), .ref, .ref, .ref]]⟩, [⟨(.exit 0), [10, 12], [.one .ref, .lp 12 0], [12], [.cells [(.int .i64), .ref, .ref, .ref]]⟩], L11_0 N⟩)], natTab []⟩
theorem l11_0 (N : Nat) : ∀ A, (e11 N).lp (lid (loopAt Try.f11 0)) = some A → LoopOk (e11 N) N (loopAt Try.f11 0) A :=
  loopOk_of (A := ⟨⟨.normal, [8, 9, 10, 12, 14], [.one .ref, .one .ref, .one .ref, .lp 12 0, .one (.int .i64)], [12], [.cells [(.int .i64), .ref, .ref, .ref]]⟩, [⟨(.exit 0), [10, 12], [.one .ref, .lp 12 0], [12], [.cells [(.int .i64), .ref, .ref, .ref]]⟩], L11_0 N⟩) (by kernel_rfl) (fun _ => rfl) (fun _ _ => by kernel_rfl)
theorem fine11 (N : Nat) : Fine (e11 N) N 11 Try.f11 ks11 rs11 (F11 N) :=
  ⟨Try.func11, by kernel_rfl, by kernel_rfl, by kernel_rfl, loops_of ⟨l11_0 N, trivial⟩, by kernel_rfl, by kernel_rfl, fun _ => by kernel_rfl⟩
theorem good11 (N : Nat) : Go.L.Good (e11 N) := good_of ⟨gd52 N, ⟨gd53 N, ⟨gd54 N, ⟨gd55 N, ⟨gd56 N, ⟨gd30, ⟨gd57 N, ⟨gd24 N, ⟨gd58 N, trivial⟩⟩⟩⟩⟩⟩⟩⟩⟩
theorem gd11 (N : Nat) : CalOk Try.prog 11 (.full (mkFun ks11 rs11 (F11 N))) := mkFun_good (fine11 N) (good11 N)

/-! ### 86: carouselref14.Is -/
noncomputable def F86 (N : Nat) : Int × V × V × V × Int × Int × H → Option (Bool × H)
  | (a0_0, a0_1, a0_2, a0_3, a1_0, a1_1, h) =>
    (if (decide (a1_0 ≥ 0)) = true then (
    some ((decide (a1_0 < a0_0)), h))
    else (
    some (false, h))).bind fun (b1, h2) =>
    (if b1 = true then (
    (sidx a0_2 a1_0 1).bind fun q5 =>
    (L.asBool (rd h2 q5 0)).bind fun x6 =>
    some (x6, h2))
    else (
    some (false, h2))).bind fun (b3, h4) =>
    (if b3 = true then (
    (sidx a0_1 a1_0 1).bind fun q9 =>
    (L.asInt .i64 (rd h4 q9 0)).bind fun x10 =>
    some ((x10 == a1_1), h4))
    else (
    some (false, h4))).bind fun (b7, h8) =>
    some (b7, h8)
abbrev ks86 : List SK := [.agg [(.int .i64), .ref, .ref, .ref], .agg [(.int .i64), (.int .i64)]]
abbrev rs86 : List SK := [.one .bool]
noncomputable def e86 (N : Nat) : Env := ⟨Try.prog, 34, inTab [2, 3], inTab [], natTab [(2, 2), (3, 3), (5, 3), (9, 3), (11, 2), (16, 2), (18, 3), (24, 2), (26, 3), (30, 3)], inTab [], calTab [], altTab [], loopTab [], natTab []⟩
theorem fine86 (N : Nat) : Fine (e86 N) N 86 Try.f86 ks86 rs86 (F86 N) :=
  ⟨Try.func86, by kernel_rfl, by kernel_rfl, by kernel_rfl, loops_of trivial, by kernel_rfl, by kernel_rfl, fun _ => by kernel_rfl⟩
theorem good86 (N : Nat) : Go.L.Good (e86 N) := good_of trivial
theorem gd86 (N : Nat) : CalOk Try.prog 86 (.ro (mkFun ks86 rs86 (F86 N))) := mkFun_ro (fine86 N) (good86 N) (by kernel_rfl)

/-! ### 84: carouselref14.Free -/
noncomputable def F84 (N : Nat) : Int × V × V × V × Int × Int × H → Option (Int × V × V × V × Int × H)
  | (a0_0, a0_1, a0_2, a0_3, a1_0, a1_1, h) =>
    (F86 N (a0_0, a0_1, a0_2, a0_3, a1_0, a1_1, h)).bind fun (x1, _) =>
    (if (!x1) = true then (
    some (a0_0, a0_1, a0_2, a0_3, 3, h))
    else (
    (F74 N (a0_0, a0_1, a0_2, a0_3, h)).bind fun (x2, x3, x4, x5, h6) =>
    (sidx x4 a1_0 1).bind fun q7 =>
    (wr h6 q7 [(.bool false)]).bind fun h8 =>
    (sidx x5 a1_0 1).bind fun q9 =>
    (wr h8 q9 [(.str (ByteArray.mk #[]))]).bind fun h10 =>
    some (x2, x3, x4, x5, 0, h10)))
abbrev ks84 : List SK := [.agg [(.int .i64), .ref, .ref, .ref], .agg [(.int .i64), (.int .i64)]]
abbrev rs84 : List SK := [.agg [(.int .i64), .ref, .ref, .ref], .one (.int .i64)]
noncomputable def e84 (N : Nat) : Env := ⟨Try.prog, 25, inTab [2, 3, 4, 6], inTab [], natTab [(2, 2), (3, 3), (4, 4), (6, 6), (14, 6), (16, 3), (19, 6), (21, 3)], inTab [], calTab [(86, .ro (mkFun ks86 rs86 (F86 N))), (74, .full (mkFun ks74 rs74 (F74 N)))], altTab [], loopTab [], natTab []⟩
theorem fine84 (N : Nat) : Fine (e84 N) N 84 Try.f84 ks84 rs84 (F84 N) :=
  ⟨Try.func84, by kernel_rfl, by kernel_rfl, by kernel_rfl, loops_of trivial, by kernel_rfl, by kernel_rfl, fun _ => by kernel_rfl⟩
theorem good84 (N : Nat) : Go.L.Good (e84 N) := good_of ⟨gd86 N, ⟨gd74 N, trivial⟩⟩
theorem gd84 (N : Nat) : CalOk Try.prog 84 (.full (mkFun ks84 rs84 (F84 N))) := mkFun_good (fine84 N) (good84 N)

/-! ### 80: carouselref14.NameOf -/
noncomputable def F80 (N : Nat) : Int × V × V × V × Int × Int × H → Option (ByteArray × H)
  | (a0_0, a0_1, a0_2, a0_3, a1_0, a1_1, h) =>
    (F86 N (a0_0, a0_1, a0_2, a0_3, a1_0, a1_1, h)).bind fun (x1, _) =>
    (if (!x1) = true then (
    some ((ByteArray.mk #[]), h))
    else (
    (sidx a0_3 a1_0 1).bind fun q2 =>
    (L.asStr (rd h q2 0)).bind fun x3 =>
    some (x3, h)))
abbrev ks80 : List SK := [.agg [(.int .i64), .ref, .ref, .ref], .agg [(.int .i64), (.int .i64)]]
abbrev rs80 : List SK := [.one .str]
noncomputable def e80 (N : Nat) : Env := ⟨Try.prog, 15, inTab [2, 3], inTab [], natTab [(2, 2), (3, 3), (9, 2), (11, 3)], inTab [], calTab [(86, .ro (mkFun ks86 rs86 (F86 N)))], altTab [], loopTab [], natTab []⟩
theorem fine80 (N : Nat) : Fine (e80 N) N 80 Try.f80 ks80 rs80 (F80 N) :=
  ⟨Try.func80, by kernel_rfl, by kernel_rfl, by kernel_rfl, loops_of trivial, by kernel_rfl, by kernel_rfl, fun _ => by kernel_rfl⟩
theorem good80 (N : Nat) : Go.L.Good (e80 N) := good_of ⟨gd86 N, trivial⟩
theorem gd80 (N : Nat) : CalOk Try.prog 80 (.ro (mkFun ks80 rs80 (F80 N))) := mkFun_ro (fine80 N) (good80 N) (by kernel_rfl)

/-! ### 85: carouselref14.Name -/
noncomputable def F85 (N : Nat) : Int × V × V × V × Int × Int × ByteArray × H → Option (Int × V × V × V × Int × H)
  | (a0_0, a0_1, a0_2, a0_3, a1_0, a1_1, a2, h) =>
    (F72 100 (a2, [])).bind fun (x1, _) =>
    (if (!x1) = true then (
    some (a0_0, a0_1, a0_2, a0_3, 1, h))
    else (
    (F86 N (a0_0, a0_1, a0_2, a0_3, a1_0, a1_1, h)).bind fun (x2, _) =>
    (if (!x2) = true then (
    some (a0_0, a0_1, a0_2, a0_3, 3, h))
    else (
    (F71 N (a0_0, a0_1, a0_2, a0_3, a2, h)).bind fun (x3, x4, x5, _) =>
    (if (x5 == 0) = true then (
    some (true, h))
    else (
    (F80 N (a0_0, a0_1, a0_2, a0_3, a1_0, a1_1, h)).bind fun (x8, _) =>
    some ((!((x8).toList == ((ByteArray.mk #[])).toList)), h))).bind fun (b6, h7) =>
    (if b6 = true then (
    some (a0_0, a0_1, a0_2, a0_3, 141, h7))
    else (
    (F74 N (a0_0, a0_1, a0_2, a0_3, h7)).bind fun (x9, x10, x11, x12, h13) =>
    (sidx x12 a1_0 1).bind fun q14 =>
    (wr h13 q14 [(.str a2)]).bind fun h15 =>
    some (x9, x10, x11, x12, 0, h15)))))))
abbrev ks85 : List SK := [.agg [(.int .i64), .ref, .ref, .ref], .agg [(.int .i64), (.int .i64)], .one .str]
abbrev rs85 : List SK := [.agg [(.int .i64), .ref, .ref, .ref], .one (.int .i64)]
noncomputable def e85 (N : Nat) : Env := ⟨Try.prog, 44, inTab [3, 4, 6, 8, 10], inTab [], natTab [(3, 3), (4, 4), (6, 6), (8, 8), (10, 10), (37, 10), (39, 4)], inTab [], calTab [(72, .pure (mkP ks72 rs72 (F72 100))), (86, .ro (mkFun ks86 rs86 (F86 N))), (71, .ro (mkFun ks71 rs71 (F71 N))), (80, .ro (mkFun ks80 rs80 (F80 N))), (74, .full (mkFun ks74 rs74 (F74 N)))], altTab [], loopTab [], natTab []⟩
theorem fine85 (N : Nat) : Fine (e85 N) N 85 Try.f85 ks85 rs85 (F85 N) :=
  ⟨Try.func85, by kernel_rfl, by kernel_rfl, by kernel_rfl, loops_of trivial, by kernel_rfl, by kernel_rfl, fun _ => by kernel_rfl⟩
theorem good85 (N : Nat) : Go.L.Good (e85 N) := good_of ⟨gd72, ⟨gd86 N, ⟨gd71 N, ⟨gd80 N, ⟨gd74 N, trivial⟩⟩⟩⟩⟩
theorem gd85 (N : Nat) : CalOk Try.prog 85 (.full (mkFun ks85 rs85 (F85 N))) := mkFun_good (fine85 N) (good85 N)

/-! ### 75: carousellaw14.play).one -/
noncomputable def F75 (N : Nat) : V × Int × Int × Int × Int × Int × Int × Int × Int × ByteArray × H → Option (Bool × H)
  | (a0, a1, a2_0, a2_1, a2_2, a2_3, a2_4, a2_5, a2_6, a2_7, h) =>
    (nck a0).bind fun _ =>
    (aidx (padd a0 0) a1 3 1).bind fun q1 =>
    ((rd h q1 0)).bind fun x2 =>
    (if (decide (a2_4 ≥ 0)) = true then (
    (nck a0).bind fun _ =>
    ((rd h (padd a0 18) 0)).bind fun x5 =>
    (slen x5).bind fun n6 =>
    some ((decide (a2_4 < n6)), h))
    else (
    some (false, h))).bind fun (b3, h4) =>
    ((if b3 = true then (
    (nck a0).bind fun _ =>
    ((rd h4 (padd a0 18) 0)).bind fun x7 =>
    (sidx x7 a2_4 2).bind fun q8 =>
    (L.asInt .i64 (rd h4 q8 0)).bind fun x9 =>
    (L.asInt .i64 (rd h4 q8 1)).bind fun x10 =>
    some (a0, a1, x2, a2_0, a2_1, a2_2, a2_3, a2_4, a2_5, a2_6, a2_7, x9, x10, h4))
    else (
    some (a0, a1, x2, a2_0, a2_1, a2_2, a2_3, a2_4, a2_5, a2_6, a2_7, a2_5, a2_6, h4))) : Option (V × Int × V × Int × Int × Int × Int × Int × Int × Int × ByteArray × Int × Int × H)).bind fun (x11, x12, x13, x14, x15, x16, x17, x18, x19, x20, x21, x22, x23, h24) =>
    (if (x14 == 2) = true then (
    (F24 N (x13, h24)).bind fun (x25, x26, x27, h28) =>
    (nck x11).bind fun _ =>
    (aidx (padd x11 15) x12 3 1).bind fun q29 =>
    (L.asBool (rd h28 q29 0)).bind fun x30 =>
    (if (!x30) = true then (
    (if (x27 == 1) = true then (
    some (((x25 == 0) && ((x26 == 0) && true)), h28))
    else (
    some (false, h28))).bind fun (b31, h32) =>
    some (b31, h32))
    else (
    (nck x11).bind fun _ =>
    (aidx (padd x11 3) x12 3 4).bind fun q33 =>
    (L.asInt .i64 (rd h28 q33 0)).bind fun x34 =>
    ((rd h28 q33 1)).bind fun x35 =>
    ((rd h28 q33 2)).bind fun x36 =>
    ((rd h28 q33 3)).bind fun x37 =>
    (F58 N (x34, x35, x36, x37, h28)).bind fun (x38, x39, x40, x41, x42, x43, x44, h45) =>
    (nck x11).bind fun _ =>
    (aidx (padd x11 3) x12 3 4).bind fun q46 =>
    (wr h45 q46 [(.int .i64 x38), x39, x40, x41]).bind fun h47 =>
    (nck x11).bind fun _ =>
    ((rd h47 (padd x11 18) 0)).bind fun x48 =>
    (happ h47 x48 2 1 [(.int .i64 x42), (.int .i64 x43)]).bind fun (v49, h50) =>
    (nck x11).bind fun _ =>
    (ck1 v49).bind fun _ =>
    (wr h50 (padd x11 18) [v49]).bind fun h51 =>
    (if ((x25 == x42) && ((x26 == x43) && true)) = true then (
    some ((x27 == x44), h51))
    else (
    some (false, h51))).bind fun (b52, h53) =>
    some (b52, h53))))
    else (
    (if (x14 == 3) = true then (
    (F25 N (x13, x22, x23, h24)).bind fun (x54, h55) =>
    (nck x11).bind fun _ =>
    (aidx (padd x11 15) x12 3 1).bind fun q56 =>
    (L.asBool (rd h55 q56 0)).bind fun x57 =>
    (if (!x57) = true then (
    some ((x54 == 1), h55))
    else (
    (nck x11).bind fun _ =>
    (aidx (padd x11 3) x12 3 4).bind fun q58 =>
    (L.asInt .i64 (rd h55 q58 0)).bind fun x59 =>
    ((rd h55 q58 1)).bind fun x60 =>
    ((rd h55 q58 2)).bind fun x61 =>
    ((rd h55 q58 3)).bind fun x62 =>
    (F84 N (x59, x60, x61, x62, x22, x23, h55)).bind fun (x63, x64, x65, x66, x67, h68) =>
    (nck x11).bind fun _ =>
    (aidx (padd x11 3) x12 3 4).bind fun q69 =>
    (wr h68 q69 [(.int .i64 x63), x64, x65, x66]).bind fun h70 =>
    some ((x54 == x67), h70))))
    else (
    (if (x14 == 4) = true then (
    (F28 N (x13, x22, x23, x21, h24)).bind fun (x71, h72) =>
    (nck x11).bind fun _ =>
    (aidx (padd x11 15) x12 3 1).bind fun q73 =>
    (L.asBool (rd h72 q73 0)).bind fun x74 =>
    (if (!x74) = true then (
    some ((x71 == 1), h72))
    else (
    (nck x11).bind fun _ =>
    (aidx (padd x11 3) x12 3 4).bind fun q75 =>
    (L.asInt .i64 (rd h72 q75 0)).bind fun x76 =>
    ((rd h72 q75 1)).bind fun x77 =>
    ((rd h72 q75 2)).bind fun x78 =>
    ((rd h72 q75 3)).bind fun x79 =>
    (F85 N (x76, x77, x78, x79, x22, x23, x21, h72)).bind fun (x80, x81, x82, x83, x84, h85) =>
    (nck x11).bind fun _ =>
    (aidx (padd x11 3) x12 3 4).bind fun q86 =>
    (wr h85 q86 [(.int .i64 x80), x81, x82, x83]).bind fun h87 =>
    some ((x71 == x84), h87))))
    else (
    (F29 N (x13, x21, h24)).bind fun (x88, x89, x90, _) =>
    (nck x11).bind fun _ =>
    (aidx (padd x11 15) x12 3 1).bind fun q91 =>
    (L.asBool (rd h24 q91 0)).bind fun x92 =>
    (if (!x92) = true then (
    (if (x90 == 1) = true then (
    some (((x88 == 0) && ((x89 == 0) && true)), h24))
    else (
    some (false, h24))).bind fun (b93, h94) =>
    (if b93 = true then (
    (F27 N (x13, x22, x23, h94)).bind fun (x97, _) =>
    some ((!x97), h94))
    else (
    some (false, h94))).bind fun (b95, h96) =>
    (if b95 = true then (
    (F26 N (x13, x22, x23, h96)).bind fun (x100, _) =>
    some (((x100).toList == ((ByteArray.mk #[])).toList), h96))
    else (
    some (false, h96))).bind fun (b98, h99) =>
    some (b98, h99))
    else (
    (nck x11).bind fun _ =>
    (aidx (padd x11 3) x12 3 4).bind fun q101 =>
    (L.asInt .i64 (rd h24 q101 0)).bind fun x102 =>
    ((rd h24 q101 1)).bind fun x103 =>
    ((rd h24 q101 2)).bind fun x104 =>
    ((rd h24 q101 3)).bind fun x105 =>
    (F71 N (x102, x103, x104, x105, x21, h24)).bind fun (x106, x107, x108, _) =>
    (if ((x88 == x106) && ((x89 == x107) && true)) = true then (
    some ((x90 == x108), h24))
    else (
    some (false, h24))).bind fun (b109, h110) =>
    (if b109 = true then (
    (F27 N (x13, x22, x23, h110)).bind fun (x113, _) =>
    (nck x11).bind fun _ =>
    (aidx (padd x11 3) x12 3 4).bind fun q114 =>
    (L.asInt .i64 (rd h110 q114 0)).bind fun x115 =>
    ((rd h110 q114 1)).bind fun x116 =>
    ((rd h110 q114 2)).bind fun x117 =>
    ((rd h110 q114 3)).bind fun x118 =>
    (F86 N (x115, x116, x117, x118, x22, x23, h110)).bind fun (x119, _) =>
    some ((x113 == x119), h110))
    else (
    some (false, h110))).bind fun (b111, h112) =>
    (if b111 = true then (
    (F26 N (x13, x22, x23, h112)).bind fun (x122, _) =>
    (nck x11).bind fun _ =>
    (aidx (padd x11 3) x12 3 4).bind fun q123 =>
    (L.asInt .i64 (rd h112 q123 0)).bind fun x124 =>
    ((rd h112 q123 1)).bind fun x125 =>
    ((rd h112 q123 2)).bind fun x126 =>
    ((rd h112 q123 3)).bind fun x127 =>
    (F80 N (x124, x125, x126, x127, x22, x23, h112)).bind fun (x128, _) =>
    some (((x122).toList == (x128).toList), h112))
    else (
    some (false, h112))).bind fun (b120, h121) =>
    some (b120, h121)))))))))
abbrev ks75 : List SK := [.one .ref, .one (.int .i64), .agg [(.int .i64), (.int .i64), (.int .i64), (.int .i64), (.int .i64), (.int .i64), (.int .i64), .str]]
abbrev rs75 : List SK := [.one .bool]
noncomputable def e75 (N : Nat) : Env := ⟨Try.prog, 264, inTab [5, 8, 9, 11, 12, 15, 18, 20, 22, 99], inTab [], natTab [(5, 5), (8, 8), (9, 9), (11, 11), (12, 12), (15, 15), (18, 18), (20, 20), (22, 22), (30, 5), (32, 5), (36, 5), (49, 5), (53, 5), (149, 5), (169, 5), (185, 5), (223, 5)], inTab [], calTab [(24, .full (mkFun ks24 rs24 (F24 N))), (58, .full (mkFun ks58 rs58 (F58 N))), (25, .full (mkFun ks25 rs25 (F25 N))), (84, .full (mkFun ks84 rs84 (F84 N))), (28, .full (mkFun ks28 rs28 (F28 N))), (85, .full (mkFun ks85 rs85 (F85 N))), (29, .ro (mkFun ks29 rs29 (F29 N))), (27, .ro (mkFun ks27 rs27 (F27 N))), (26, .ro (mkFun ks26 rs26 (F26 N))), (71, .ro (mkFun ks71 rs71 (F71 N))), (86, .ro (mkFun ks86 rs86 (F86 N))), (80, .ro (mkFun ks80 rs80 (F80 N)))], altTab [(262188, [⟨.normal, [0, 1, 5, 7, 8], [.one .ref, .one (.int .i64), .lp 5 0, .one .ref, .lp 8 0], [5, 8], [.cells [(.int .i64), (.int .i64), (.int .i64), (.int .i64), (.int .i64), (.int .i64), (.int .i64), .str], .cells [(.int .i64), (.int .i64)]]⟩])], loopTab [], natTab []⟩
theorem fine75 (N : Nat) : Fine (e75 N) N 75 Try.f75 ks75 rs75 (F75 N) :=
  ⟨Try.func75, by kernel_rfl, by kernel_rfl, by kernel_rfl, loops_of trivial, by kernel_rfl, by kernel_rfl, fun _ => by kernel_rfl⟩
theorem good75 (N : Nat) : Go.L.Good (e75 N) := good_of ⟨gd24 N, ⟨gd58 N, ⟨gd25 N, ⟨gd84 N, ⟨gd28 N, ⟨gd85 N, ⟨gd29 N, ⟨gd27 N, ⟨gd26 N, ⟨gd71 N, ⟨gd86 N, ⟨gd80 N, trivial⟩⟩⟩⟩⟩⟩⟩⟩⟩⟩⟩⟩
theorem gd75 (N : Nat) : CalOk Try.prog 75 (.full (mkFun ks75 rs75 (F75 N))) := mkFun_good (fine75 N) (good75 N)

/-! ### 87: table.seat] -/
noncomputable def F87 (N : Nat) : V × H → Option (V × H)
  | (a0, h) =>
    (isNilS a0).bind fun b1 =>
    (if b1 = true then (
    some (.nils, h))
    else (
    (some (h ++ [O.cells 0 []]) : Option H).bind fun h2 =>
    (scells h2 a0 3).bind fun cs5 =>
    (happ h2 (.sl (h).length 0 0 0 3 (some 0)) 3 (snlen a0) cs5).bind fun (v3, h4) =>
    some (v3, h4)))
abbrev ks87 : List SK := [.one .ref]
abbrev rs87 : List SK := [.one .ref]
noncomputable def e87 (N : Nat) : Env := ⟨Try.prog, 8, inTab [], inTab [], natTab [], inTab [], calTab [], altTab [], loopTab [], natTab []⟩
theorem fine87 (N : Nat) : Fine (e87 N) N 87 Try.f87 ks87 rs87 (F87 N) :=
  ⟨Try.func87, by kernel_rfl, by kernel_rfl, by kernel_rfl, loops_of trivial, by kernel_rfl, by kernel_rfl, fun _ => by kernel_rfl⟩
theorem good87 (N : Nat) : Go.L.Good (e87 N) := good_of trivial
theorem gd87 (N : Nat) : CalOk Try.prog 87 (.full (mkFun ks87 rs87 (F87 N))) := mkFun_good (fine87 N) (good87 N)

/-! ### 76: table.Table).Copy -/
noncomputable def L76_0 (N : Nat) : Nat → V × V × Int × Int × H → Option (V × H)
  | 0, _ => none
  | n + 1, (x25, x26, x27, x28, h29) =>
    (if (decide (x28 < x27)) = true then (
    (sidx x26 x28 3).bind fun q30 =>
    (L.asInt .i64 (rd h29 q30 0)).bind fun x31 =>
    (L.asBool (rd h29 q30 1)).bind fun x32 =>
    (L.asStr (rd h29 q30 2)).bind fun x33 =>
    ((if (!((x33).toList == ((ByteArray.mk #[])).toList)) = true then (
    (nck x25).bind fun _ =>
    ((rd h29 (padd x25 1) 0)).bind fun x34 =>
    (hmapset h29 x34 (.str x33) (.int .i64 x28)).bind fun h35 =>
    some (x25, x26, x27, x28, h35))
    else (
    some (x25, x26, x27, x28, h29))) : Option (V × V × Int × Int × H)).bind fun (x36, x37, x38, x39, h40) =>
    L76_0 N n (x36, x37, x38, (IntKind.i64.wrap (x39 + 1)), h40))
    else (
    some (x25, h29)))
noncomputable def F76 (N : Nat) : V × H → Option (V × H)
  | (a0, h) =>
    (F62 N (a0, h)).bind fun (x1, _) =>
    (if (!x1) = true then (
    some (.nilp, h))
    else (
    (nck a0).bind fun _ =>
    ((rd h (padd a0 0) 0)).bind fun x2 =>
    (F87 N (x2, h)).bind fun (x3, h4) =>
    (some (h4 ++ [O.map []]) : Option H).bind fun h5 =>
    (ck1 x3).bind fun _ =>
    (ck1 (.map (h4).length)).bind fun _ =>
    (some (h5 ++ [O.cells 0 [x3, (.map (h4).length)]]) : Option H).bind fun h6 =>
    ((rd h6 (.ptr (h5).length 0 0) 0)).bind fun x7 =>
    (slen x7).bind fun n8 =>
    (L76_0 N N ((.ptr (h5).length 0 0), x7, n8, 0, h6)).bind fun (x41, h42) =>
    some (x41, h42)))
abbrev ks76 : List SK := [.one .ref]
abbrev rs76 : List SK := [.one .ref]
noncomputable def e76 (N : Nat) : Env := ⟨Try.prog, 39, inTab [5], inTab [], natTab [(5, 5), (27, 5), (34, 5)], inTab [], calTab [(62, .ro (mkFun ks62 rs62 (F62 N))), (87, .full (mkFun ks87 rs87 (F87 N)))], altTab [(524317, [⟨.normal, [3, 20, 21, 22], [.one .ref, .one .ref, .one (.int .i64), .one (.int .i64)], [], []⟩])], loopTab [(5, ⟨⟨.normal, [3, 20, 21, 22], [.one .ref, .one .ref, .one (.int .i64), .one (.int .i64)], [], []⟩, [⟨(.exit 0), [3], [.one .ref], [], []⟩], L76_0 N⟩)], natTab []⟩
theorem l76_0 (N : Nat) : ∀ A, (e76 N).lp (lid (loopAt Try.f76 0)) = some A → LoopOk (e76 N) N (loopAt Try.f76 0) A :=
  loopOk_of (A := ⟨⟨.normal, [3, 20, 21, 22], [.one .ref, .one .ref, .one (.int .i64), .one (.int .i64)], [], []⟩, [⟨(.exit 0), [3], [.one .ref], [], []⟩], L76_0 N⟩) (by kernel_rfl) (fun _ => rfl) (fun _ _ => by kernel_rfl)
theorem fine76 (N : Nat) : Fine (e76 N) N 76 Try.f76 ks76 rs76 (F76 N) :=
  ⟨Try.func76, by kernel_rfl, by kernel_rfl, by kernel_rfl, loops_of ⟨l76_0 N, trivial⟩, by kernel_rfl, by kernel_rfl, fun _ => by kernel_rfl⟩
theorem good76 (N : Nat) : Go.L.Good (e76 N) := good_of ⟨gd62 N, ⟨gd87 N, trivial⟩⟩
theorem gd76 (N : Nat) : CalOk Try.prog 76 (.full (mkFun ks76 rs76 (F76 N))) := mkFun_good (fine76 N) (good76 N)

/-! ### 77: table.Table).Gens -/
noncomputable def L77_0 (N : Nat) : Nat → V × V × Int × Int × H → Option (V × H)
  | 0, _ => none
  | n + 1, (x15, x16, x17, x18, h19) =>
    (if (decide (x18 < x17)) = true then (
    (sidx x16 x18 3).bind fun q20 =>
    (L.asInt .i64 (rd h19 q20 0)).bind fun x21 =>
    (L.asBool (rd h19 q20 1)).bind fun x22 =>
    (L.asStr (rd h19 q20 2)).bind fun x23 =>
    (happ h19 x15 1 1 [(.int .i64 x21)]).bind fun (v24, h25) =>
    L77_0 N n (v24, x16, x17, (IntKind.i64.wrap (x18 + 1)), h25))
    else (
    some (x15, h19)))
noncomputable def F77 (N : Nat) : V × H → Option (V × H)
  | (a0, h) =>
    (F62 N (a0, h)).bind fun (x1, _) =>
    (if (!x1) = true then (
    some (.nils, h))
    else (
    (nck a0).bind fun _ =>
    ((rd h (padd a0 0) 0)).bind fun x2 =>
    (slen x2).bind fun n3 =>
    (L77_0 N N (.nils, x2, n3, 0, h)).bind fun (x26, h27) =>
    some (x26, h27)))
abbrev ks77 : List SK := [.one .ref]
abbrev rs77 : List SK := [.one .ref]
noncomputable def e77 (N : Nat) : Env := ⟨Try.prog, 25, inTab [5, 21], inTab [], natTab [(5, 5), (19, 5)], inTab [], calTab [(62, .ro (mkFun ks62 rs62 (F62 N)))], altTab [], loopTab [(5, ⟨⟨.normal, [3, 12, 13, 14], [.one .ref, .one .ref, .one (.int .i64), .one (.int .i64)], [], []⟩, [⟨(.exit 0), [3], [.one .ref], [], []⟩], L77_0 N⟩)], natTab []⟩
theorem l77_0 (N : Nat) : ∀ A, (e77 N).lp (lid (loopAt Try.f77 0)) = some A → LoopOk (e77 N) N (loopAt Try.f77 0) A :=
  loopOk_of (A := ⟨⟨.normal, [3, 12, 13, 14], [.one .ref, .one .ref, .one (.int .i64), .one (.int .i64)], [], []⟩, [⟨(.exit 0), [3], [.one .ref], [], []⟩], L77_0 N⟩) (by kernel_rfl) (fun _ => rfl) (fun _ _ => by kernel_rfl)
theorem fine77 (N : Nat) : Fine (e77 N) N 77 Try.f77 ks77 rs77 (F77 N) :=
  ⟨Try.func77, by kernel_rfl, by kernel_rfl, by kernel_rfl, loops_of ⟨l77_0 N, trivial⟩, by kernel_rfl, by kernel_rfl, fun _ => by kernel_rfl⟩
theorem good77 (N : Nat) : Go.L.Good (e77 N) := good_of ⟨gd62 N, trivial⟩
theorem gd77 (N : Nat) : CalOk Try.prog 77 (.full (mkFun ks77 rs77 (F77 N))) := mkFun_good (fine77 N) (good77 N)

/-! ### 79: carouselref14.Pids -/
noncomputable def L79_0 (N : Nat) : Nat → V × Int × Int × V × V × V × H → Option (V × H)
  | 0, _ => none
  | n + 1, (x21, x22, x23, x24, x25, x26, h27) =>
    (if (decide (x22 < x23)) = true then (
    (sidx x25 x22 1).bind fun q28 =>
    (L.asBool (rd h27 q28 0)).bind fun x29 =>
    ((if x29 = true then (
    (sidx x24 x22 1).bind fun q30 =>
    (L.asInt .i64 (rd h27 q30 0)).bind fun x31 =>
    (happ h27 x21 2 1 [(.int .i64 x22), (.int .i64 x31)]).bind fun (v32, h33) =>
    some (v32, x22, x23, x24, x25, x26, h33))
    else (
    some (x21, x22, x23, x24, x25, x26, h27))) : Option (V × Int × Int × V × V × V × H)).bind fun (x34, x35, x36, x37, x38, x39, h40) =>
    L79_0 N n (x34, (IntKind.i64.wrap (x35 + 1)), x36, x37, x38, x39, h40))
    else (
    some (x21, h27)))
noncomputable def F79 (N : Nat) : Int × V × V × V × H → Option (V × H)
  | (a0_0, a0_1, a0_2, a0_3, h) =>
    (L79_0 N N (.nils, 0, a0_0, a0_1, a0_2, a0_3, h)).bind fun (x41, h42) =>
    some (x41, h42)
abbrev ks79 : List SK := [.agg [(.int .i64), .ref, .ref, .ref]]
abbrev rs79 : List SK := [.one .ref]
noncomputable def e79 (N : Nat) : Env := ⟨Try.prog, 27, inTab [1, 24], inTab [], natTab [(1, 1), (6, 1), (11, 1), (18, 1)], inTab [], calTab [], altTab [(393231, [⟨.normal, [1, 3, 4], [.lp 1 0, .one .ref, .one (.int .i64)], [1], [.cells [(.int .i64), .ref, .ref, .ref]]⟩])], loopTab [(3, ⟨⟨.normal, [1, 3, 4], [.lp 1 0, .one .ref, .one (.int .i64)], [1], [.cells [(.int .i64), .ref, .ref, .ref]]⟩, [⟨(.exit 0), [3], [.one .ref], [], []⟩], L79_0 N⟩)], natTab []⟩
theorem l79_0 (N : Nat) : ∀ A, (e79 N).lp (lid (loopAt Try.f79 0)) = some A → LoopOk (e79 N) N (loopAt Try.f79 0) A :=
  loopOk_of (A := ⟨⟨.normal, [1, 3, 4], [.lp 1 0, .one .ref, .one (.int .i64)], [1], [.cells [(.int .i64), .ref, .ref, .ref]]⟩, [⟨(.exit 0), [3], [.one .ref], [], []⟩], L79_0 N⟩) (by kernel_rfl) (fun _ => rfl) (fun _ _ => by kernel_rfl)
theorem fine79 (N : Nat) : Fine (e79 N) N 79 Try.f79 ks79 rs79 (F79 N) :=
  ⟨Try.func79, by kernel_rfl, by kernel_rfl, by kernel_rfl, loops_of ⟨l79_0 N, trivial⟩, by kernel_rfl, by kernel_rfl, fun _ => by kernel_rfl⟩
theorem good79 (N : Nat) : Go.L.Good (e79 N) := good_of trivial
theorem gd79 (N : Nat) : CalOk Try.prog 79 (.full (mkFun ks79 rs79 (F79 N))) := mkFun_good (fine79 N) (good79 N)

/-! ### 78: carousellaw14.names -/
noncomputable def L78_0 (N : Nat) : Nat → V × V × Int × Int × V × V × V × H → Option (V × H)
  | 0, _ => none
  | n + 1, (x18, x19, x20, x21, x22, x23, x24, h25) =>
    (slen x19).bind fun n26 =>
    (if (decide (x20 < n26)) = true then (
    (sidx x19 x20 2).bind fun q27 =>
    (L.asInt .i64 (rd h25 q27 0)).bind fun x28 =>
    (L.asInt .i64 (rd h25 q27 1)).bind fun x29 =>
    (F80 N (x21, x22, x23, x24, x28, x29, h25)).bind fun (x30, _) =>
    (happ h25 x18 1 1 [(.str x30)]).bind fun (v31, h32) =>
    L78_0 N n (v31, x19, (IntKind.i64.wrap (x20 + 1)), x21, x22, x23, x24, h32))
    else (
    some (x18, h25)))
noncomputable def F78 (N : Nat) : Int × V × V × V × H → Option (V × H)
  | (a0_0, a0_1, a0_2, a0_3, h) =>
    (F79 N (a0_0, a0_1, a0_2, a0_3, h)).bind fun (x1, h2) =>
    (L78_0 N N (.nils, x1, 0, a0_0, a0_1, a0_2, a0_3, h2)).bind fun (x33, h34) =>
    some (x33, h34)
abbrev ks78 : List SK := [.agg [(.int .i64), .ref, .ref, .ref]]
abbrev rs78 : List SK := [.one .ref]
noncomputable def e78 (N : Nat) : Env := ⟨Try.prog, 24, inTab [1, 21], inTab [], natTab [(1, 1)], inTab [], calTab [(79, .full (mkFun ks79 rs79 (F79 N))), (80, .ro (mkFun ks80 rs80 (F80 N)))], altTab [], loopTab [(4, ⟨⟨.normal, [1, 3, 4, 5], [.lp 1 0, .one .ref, .one .ref, .one (.int .i64)], [1], [.cells [(.int .i64), .ref, .ref, .ref]]⟩, [⟨(.exit 0), [3], [.one .ref], [], []⟩], L78_0 N⟩)], natTab []⟩
theorem l78_0 (N : Nat) : ∀ A, (e78 N).lp (lid (loopAt Try.f78 0)) = some A → LoopOk (e78 N) N (loopAt Try.f78 0) A :=
  loopOk_of (A := ⟨⟨.normal, [1, 3, 4, 5], [.lp 1 0, .one .ref, .one .ref, .one (.int .i64)], [1], [.cells [(.int .i64), .ref, .ref, .ref]]⟩, [⟨(.exit 0), [3], [.one .ref], [], []⟩], L78_0 N⟩) (by kernel_rfl) (fun _ => rfl) (fun _ _ => by kernel_rfl)
theorem fine78 (N : Nat) : Fine (e78 N) N 78 Try.f78 ks78 rs78 (F78 N) :=
  ⟨Try.func78, by kernel_rfl, by kernel_rfl, by kernel_rfl, loops_of ⟨l78_0 N, trivial⟩, by kernel_rfl, by kernel_rfl, fun _ => by kernel_rfl⟩
theorem good78 (N : Nat) : Go.L.Good (e78 N) := good_of ⟨gd79 N, ⟨gd80 N, trivial⟩⟩
theorem gd78 (N : Nat) : CalOk Try.prog 78 (.full (mkFun ks78 rs78 (F78 N))) := mkFun_good (fine78 N) (good78 N)

/-! ### 81: carouselref02.Grown -/
noncomputable def L81_0 (N : Nat) : Nat → V × Int × Int × H → Option (H)
  | 0, _ => none
  | n + 1, (x7, x8, x9, h10) =>
    (if (decide (x9 < 20)) = true then (
    (happ h10 x7 1 1 [(.int .i64 (IntKind.i64.wrap ((-2000000) - x8)))]).bind fun (v11, h12) =>
    L81_0 N n (v11, x8, (IntKind.i64.wrap (x9 + 1)), h12))
    else (
    some h10))
noncomputable def F81 (N : Nat) : V × Int × H → Option (H)
  | (a0, a1, h) =>
    (L81_0 N N (a0, a1, 0, h)).bind fun h13 =>
    some h13
abbrev ks81 : List SK := [.one .ref, .one (.int .i64)]
abbrev rs81 : List SK := []
noncomputable def e81 (N : Nat) : Env := ⟨Try.prog, 14, inTab [12], inTab [], natTab [], inTab [], calTab [], altTab [], loopTab [(1, ⟨⟨.normal, [0, 1, 4], [.one .ref, .one (.int .i64), .one (.int .i64)], [], []⟩, [⟨(.exit 0), [], [], [], []⟩], L81_0 N⟩)], natTab []⟩
theorem l81_0 (N : Nat) : ∀ A, (e81 N).lp (lid (loopAt Try.f81 0)) = some A → LoopOk (e81 N) N (loopAt Try.f81 0) A :=
  loopOk_of (A := ⟨⟨.normal, [0, 1, 4], [.one .ref, .one (.int .i64), .one (.int .i64)], [], []⟩, [⟨(.exit 0), [], [], [], []⟩], L81_0 N⟩) (by kernel_rfl) (fun _ => rfl) (fun _ _ => by kernel_rfl)
theorem fine81 (N : Nat) : Fine (e81 N) N 81 Try.f81 ks81 rs81 (F81 N) :=
  ⟨Try.func81, by kernel_rfl, by kernel_rfl, by kernel_rfl, loops_of ⟨l81_0 N, trivial⟩, by kernel_rfl, by kernel_rfl, fun _ => by kernel_rfl⟩
theorem good81 (N : Nat) : Go.L.Good (e81 N) := good_of trivial
theorem gd81 (N : Nat) : CalOk Try.prog 81 (.full (mkFun ks81 rs81 (F81 N))) := mkFun_good (fine81 N) (good81 N)

/-! ### 60: carousellaw14.play).told -/
noncomputable def L60_0 (N : Nat) : Nat → V × Int × V × V × V × Int × H → Option ((V × H) ⊕ (Bool × H))
  | 0, _ => none
  | n + 1, (x58, x59, x60, x61, x62, x63, h64) =>
    (slen x61).bind fun n65 =>
    (if (decide (x63 < n65)) = true then (
    (sidx x61 x63 2).bind fun q66 =>
    (L.asInt .i64 (rd h64 q66 0)).bind fun x67 =>
    (L.asInt .i64 (rd h64 q66 1)).bind fun x68 =>
    (F26 N (x60, x67, x68, h64)).bind fun (x69, _) =>
    (nck x58).bind fun _ =>
    (aidx (padd x58 3) x59 3 4).bind fun q70 =>
    (L.asInt .i64 (rd h64 q70 0)).bind fun x71 =>
    ((rd h64 q70 1)).bind fun x72 =>
    ((rd h64 q70 2)).bind fun x73 =>
    ((rd h64 q70 3)).bind fun x74 =>
    (sidx x61 x63 2).bind fun q75 =>
    (L.asInt .i64 (rd h64 q75 0)).bind fun x76 =>
    (L.asInt .i64 (rd h64 q75 1)).bind fun x77 =>
    (F80 N (x71, x72, x73, x74, x76, x77, h64)).bind fun (x78, _) =>
    (if (!((x69).toList == (x78).toList)) = true then (
    some (.inr (false, h64)))
    else (
    (sidx x61 x63 2).bind fun q79 =>
    (wr h64 q79 [(.int .i64 (-1)), (.int .i64 (-7))]).bind fun h80 =>
    L60_0 N n (x58, x59, x60, x61, x62, (IntKind.i64.wrap (x63 + 1)), h80))))
    else (
    some (.inl (x62, h64))))
noncomputable def F60 (N : Nat) : V × Int × H → Option (Bool × H)
  | (a0, a1, h) =>
    (nck a0).bind fun _ =>
    (aidx (padd a0 0) a1 3 1).bind fun q1 =>
    ((rd h q1 0)).bind fun x2 =>
    (nck a0).bind fun _ =>
    (aidx (padd a0 15) a1 3 1).bind fun q3 =>
    (L.asBool (rd h q3 0)).bind fun x4 =>
    (if (!x4) = true then (
    (F32 N (x2, h)).bind fun (x5, h6) =>
    (slen x5).bind fun n7 =>
    (if (n7 == 0) = true then (
    (F77 N (x2, h6)).bind fun (x10, h11) =>
    (slen x10).bind fun n12 =>
    some ((n12 == 0), h11))
    else (
    some (false, h6))).bind fun (b8, h9) =>
    (if b8 = true then (
    (F76 N (x2, h9)).bind fun (x15, h16) =>
    (isNil x15).bind fun b17 =>
    some (b17, h16))
    else (
    some (false, h9))).bind fun (b13, h14) =>
    some (b13, h14))
    else (
    (F32 N (x2, h)).bind fun (x18, h19) =>
    (F77 N (x2, h19)).bind fun (x20, h21) =>
    (nck a0).bind fun _ =>
    (aidx (padd a0 3) a1 3 4).bind fun q22 =>
    (L.asInt .i64 (rd h21 q22 0)).bind fun x23 =>
    ((rd h21 q22 1)).bind fun x24 =>
    ((rd h21 q22 2)).bind fun x25 =>
    ((rd h21 q22 3)).bind fun x26 =>
    (F79 N (x23, x24, x25, x26, h21)).bind fun (x27, h28) =>
    (F56 N (x18, x27, h28)).bind fun (x29, _) =>
    (if (!x29) = true then (
    some (true, h28))
    else (
    (nck a0).bind fun _ =>
    (aidx (padd a0 3) a1 3 4).bind fun q32 =>
    ((rd h28 (padd q32 1) 0)).bind fun x33 =>
    (F73 N (x20, x33, h28)).bind fun (x34, _) =>
    some ((!x34), h28))).bind fun (b30, h31) =>
    (if b30 = true then (
    some (false, h31))
    else (
    (L60_0 N N (a0, a1, x2, x18, x20, 0, h31)).bind fun o81 => match o81 with
    | .inl (x82, h83) => (
    (F57 N (x82, 1, h83)).bind fun h84 =>
    (F81 N (x82, 1, h84)).bind fun h85 =>
    some (true, h85))
    | .inr (x86, h87) => (
    some (x86, h87))))))
abbrev ks60 : List SK := [.one .ref, .one (.int .i64)]
abbrev rs60 : List SK := [.one .bool]
noncomputable def e60 (N : Nat) : Env := ⟨Try.prog, 95, inTab [], inTab [], natTab [], inTab [], calTab [(32, .full (mkFun ks32 rs32 (F32 N))), (77, .full (mkFun ks77 rs77 (F77 N))), (76, .full (mkFun ks76 rs76 (F76 N))), (79, .full (mkFun ks79 rs79 (F79 N))), (56, .ro (mkFun ks56 rs56 (F56 N))), (73, .ro (mkFun ks73 rs73 (F73 N))), (26, .ro (mkFun ks26 rs26 (F26 N))), (80, .ro (mkFun ks80 rs80 (F80 N))), (57, .full (mkFun ks57 rs57 (F57 N))), (81, .full (mkFun ks81 rs81 (F81 N)))], altTab [], loopTab [(8, ⟨⟨.normal, [0, 1, 5, 6, 7, 8], [.one .ref, .one (.int .i64), .one .ref, .one .ref, .one .ref, .one (.int .i64)], [], []⟩, [⟨(.exit 0), [7], [.one .ref], [], []⟩, ⟨.ret, [4], [.one .bool], [], []⟩], L60_0 N⟩)], natTab []⟩
theorem l60_0 (N : Nat) : ∀ A, (e60 N).lp (lid (loopAt Try.f60 0)) = some A → LoopOk (e60 N) N (loopAt Try.f60 0) A :=
  loopOk_of (A := ⟨⟨.normal, [0, 1, 5, 6, 7, 8], [.one .ref, .one (.int .i64), .one .ref, .one .ref, .one .ref, .one (.int .i64)], [], []⟩, [⟨(.exit 0), [7], [.one .ref], [], []⟩, ⟨.ret, [4], [.one .bool], [], []⟩], L60_0 N⟩) (by kernel_rfl) (fun _ => rfl) (fun _ _ => by kernel_rfl)
theorem fine60 (N : Nat) : Fine (e60 N) N 60 Try.f60 ks60 rs60 (F60 N) :=
  ⟨Try.func60, by kernel_rfl, by kernel_rfl, by kernel_rfl, loops_of ⟨l60_0 N, trivial⟩, by kernel_rfl, by kernel_rfl, fun _ => by kernel_rfl⟩
theorem good60 (N : Nat) : Go.L.Good (e60 N) := good_of ⟨gd32 N, ⟨gd77 N, ⟨gd76 N, ⟨gd79 N, ⟨gd56 N, ⟨gd73 N, ⟨gd26 N, ⟨gd80 N, ⟨gd57 N, ⟨gd81 N, trivial⟩⟩⟩⟩⟩⟩⟩⟩⟩⟩
theorem gd60 (N : Nat) : CalOk Try.prog 60 (.full (mkFun ks60 rs60 (F60 N))) := mkFun_good (fine60 N) (good60 N)

end Go.Proofs.Ytbpibiapjangmaa
