/- The functions that the laws reach, as plain ones (printed by gen.py). -/
import Derived.Test.YtbpibiapjangmaaL32
import Derived.Test.YtbpibiapjangmaaChecked
import Derived.KernelRfl
set_option linter.unusedVariables false
namespace Go.Proofs.Ytbpibiapjangmaa
open Go.L

/-! ### 33: log.New -/
noncomputable def F33 (N : Nat) : Int × H → Option (V × Int × H)
  | (a0, h) =>
    (if (decide (a0 < 1)) = true then (
    some (true, h))
    else (
    some ((decide (a0 > 4096)), h))).bind fun (b1, h2) =>
    (if b1 = true then (
    some (.nilp, 1, h2))
    else (
    (some (h2 ++ [O.cells 0 ((.int .i64 a0) :: .nils :: List.replicate 34 (.int .i64 0))]) : Option H).bind fun h3 =>
    some ((.ptr (h2).length 0 0), 0, h3)))
abbrev ks33 : List SK := [.one (.int .i64)]
abbrev rs33 : List SK := [.one .ref, .one (.int .i64)]
noncomputable def e33 (N : Nat) : Env := ⟨Try.prog, 13, inTab [], inTab [], natTab [], inTab [], calTab [], altTab [], loopTab []⟩
theorem fine33 (N : Nat) : Fine (e33 N) N 33 Try.f33 ks33 rs33 (F33 N) :=
  ⟨Try.func33, by kernel_rfl, by kernel_rfl, by kernel_rfl, loops_of trivial, by kernel_rfl, by kernel_rfl, fun _ => by kernel_rfl⟩
theorem good33 (N : Nat) : Go.L.Good (e33 N) := good_of trivial
theorem gd33 (N : Nat) : CalOk Try.prog 33 (.full (mkFun ks33 rs33 (F33 N))) := mkFun_good (fine33 N) (good33 N)

/-! ### 34: carouselref20.New -/
noncomputable def F34 (N : Nat) : Int × H → Option (List V × Int × H)
  | (a0, h) =>
    (if (decide (a0 < 1)) = true then (
    some (true, h))
    else (
    some ((decide (a0 > 4096)), h))).bind fun (b1, h2) =>
    (if b1 = true then (
    some (((.int .i64 0) :: .nils :: List.replicate 33 (.int .i64 0)), 1, h2))
    else (
    some (((.int .i64 a0) :: .nils :: List.replicate 33 (.int .i64 0)), 0, h2)))
abbrev ks34 : List SK := [.one (.int .i64)]
abbrev rs34 : List SK := [.blk, .one (.int .i64)]
noncomputable def e34 (N : Nat) : Env := ⟨Try.prog, 15, inTab [2, 4], inTab [], natTab [(2, 2), (4, 4), (13, 4)], inTab [], calTab [], altTab [], loopTab []⟩
theorem fine34 (N : Nat) : Fine (e34 N) N 34 Try.f34 ks34 rs34 (F34 N) :=
  ⟨Try.func34, by kernel_rfl, by kernel_rfl, by kernel_rfl, loops_of trivial, by kernel_rfl, by kernel_rfl, fun _ => by kernel_rfl⟩
theorem good34 (N : Nat) : Go.L.Good (e34 N) := good_of trivial
theorem gd34 (N : Nat) : CalOk Try.prog 34 (.ro (mkFun ks34 rs34 (F34 N))) := mkFun_ro (fine34 N) (good34 N) (by kernel_rfl)

/-! ### 65: log.Log).given -/
noncomputable def F65 (N : Nat) : V × H → Option (Bool × H)
  | (a0, h) =>
    (isNil a0).bind fun b1 =>
    (if (!b1) = true then (
    (nck a0).bind fun _ =>
    (L.asInt .i64 (rd h (padd a0 0) 0)).bind fun x4 =>
    some ((decide (x4 > 0)), h))
    else (
    some (false, h))).bind fun (b2, h3) =>
    some (b2, h3)
abbrev ks65 : List SK := [.one .ref]
abbrev rs65 : List SK := [.one .bool]
noncomputable def e65 (N : Nat) : Env := ⟨Try.prog, 12, inTab [], inTab [], natTab [], inTab [], calTab [], altTab [], loopTab []⟩
theorem fine65 (N : Nat) : Fine (e65 N) N 65 Try.f65 ks65 rs65 (F65 N) :=
  ⟨Try.func65, by kernel_rfl, by kernel_rfl, by kernel_rfl, loops_of trivial, by kernel_rfl, by kernel_rfl, fun _ => by kernel_rfl⟩
theorem good65 (N : Nat) : Go.L.Good (e65 N) := good_of trivial
theorem gd65 (N : Nat) : CalOk Try.prog 65 (.ro (mkFun ks65 rs65 (F65 N))) := mkFun_ro (fine65 N) (good65 N) (by kernel_rfl)

/-! ### 66: log.kind -/
noncomputable def F66 (N : Nat) : Int × H → Option (Bool × H)
  | (a0, h) =>
    (if (decide (a0 ≥ 1)) = true then (
    some ((decide (a0 ≤ 10)), h))
    else (
    some (false, h))).bind fun (b1, h2) =>
    some (b1, h2)
abbrev ks66 : List SK := [.one (.int .i64)]
abbrev rs66 : List SK := [.one .bool]
noncomputable def e66 (N : Nat) : Env := ⟨Try.prog, 9, inTab [], inTab [], natTab [], inTab [], calTab [], altTab [], loopTab []⟩
theorem fine66 (N : Nat) : Fine (e66 N) N 66 Try.f66 ks66 rs66 (F66 N) :=
  ⟨Try.func66, by kernel_rfl, by kernel_rfl, by kernel_rfl, loops_of trivial, by kernel_rfl, by kernel_rfl, fun _ => by kernel_rfl⟩
theorem good66 (N : Nat) : Go.L.Good (e66 N) := good_of trivial
theorem gd66 : CalOk Try.prog 66 (.pure (mkP ks66 rs66 (F66 100))) := mkP_good (fine66 100) (good66 100) (by kernel_rfl) (by kernel_rfl)

/-! ### 36: log.Log).Add -/
noncomputable def F36 (N : Nat) : V × Int × Int × Int × Int × Int × Int × H → Option (Int × H)
  | (a0, a1_0, a1_1, a1_2, a1_3, a1_4, a1_5, h) =>
    (F65 N (a0, h)).bind fun (x1, _) =>
    (if (!x1) = true then (
    some (true, h))
    else (
    (F66 100 (a1_0, [])).bind fun (x4, _) =>
    some ((!x4), h))).bind fun (b2, h3) =>
    (if b2 = true then (
    some (true, h3))
    else (
    some ((decide (a1_4 < 0)), h3))).bind fun (b5, h6) =>
    (if b5 = true then (
    some (true, h6))
    else (
    some ((decide (a1_4 > 4611686018427387903)), h6))).bind fun (b7, h8) =>
    (if b7 = true then (
    some (true, h8))
    else (
    some ((decide (a1_5 < 0)), h8))).bind fun (b9, h10) =>
    (if b9 = true then (
    some (true, h10))
    else (
    some ((decide (a1_5 > 4611686018427387903)), h10))).bind fun (b11, h12) =>
    (if b11 = true then (
    some (1, h12))
    else (
    (nck a0).bind fun _ =>
    (aidx (padd a0 3) a1_0 11 1).bind fun q13 =>
    (L.asInt .i64 (rd h12 q13 0)).bind fun x14 =>
    (nck a0).bind fun _ =>
    (aidx (padd a0 3) a1_0 11 1).bind fun q15 =>
    (wr h12 q15 [(.int .i64 (IntKind.i64.wrap (x14 + 1)))]).bind fun h16 =>
    (nck a0).bind fun _ =>
    (aidx (padd a0 14) a1_0 11 1).bind fun q17 =>
    (L.asInt .i64 (rd h16 q17 0)).bind fun x18 =>
    (nck a0).bind fun _ =>
    (aidx (padd a0 14) a1_0 11 1).bind fun q19 =>
    (wr h16 q19 [(.int .i64 (Int.tmod (IntKind.i64.wrap (x18 + a1_4)) 4611686018427387904))]).bind fun h20 =>
    (nck a0).bind fun _ =>
    (aidx (padd a0 25) a1_0 11 1).bind fun q21 =>
    (L.asInt .i64 (rd h20 q21 0)).bind fun x22 =>
    (nck a0).bind fun _ =>
    (aidx (padd a0 25) a1_0 11 1).bind fun q23 =>
    (wr h20 q23 [(.int .i64 (Int.tmod (IntKind.i64.wrap (x22 + a1_5)) 4611686018427387904))]).bind fun h24 =>
    (nck a0).bind fun _ =>
    ((rd h24 (padd a0 1) 0)).bind fun x25 =>
    (slen x25).bind fun n26 =>
    (nck a0).bind fun _ =>
    (L.asInt .i64 (rd h24 (padd a0 0) 0)).bind fun x27 =>
    (if (decide (n26 < x27)) = true then (
    (nck a0).bind fun _ =>
    ((rd h24 (padd a0 1) 0)).bind fun x28 =>
    (happ h24 x28 6 1 [(.int .i64 a1_0), (.int .i64 a1_1), (.int .i64 a1_2), (.int .i64 a1_3), (.int .i64 a1_4), (.int .i64 a1_5)]).bind fun (v29, h30) =>
    (nck a0).bind fun _ =>
    (ck1 v29).bind fun _ =>
    (wr h30 (padd a0 1) [v29]).bind fun h31 =>
    some (0, h31))
    else (
    (nck a0).bind fun _ =>
    ((rd h24 (padd a0 1) 0)).bind fun x32 =>
    (nck a0).bind fun _ =>
    (L.asInt .i64 (rd h24 (padd a0 2) 0)).bind fun x33 =>
    (sidx x32 x33 6).bind fun q34 =>
    (wr h24 q34 [(.int .i64 a1_0), (.int .i64 a1_1), (.int .i64 a1_2), (.int .i64 a1_3), (.int .i64 a1_4), (.int .i64 a1_5)]).bind fun h35 =>
    (nck a0).bind fun _ =>
    (L.asInt .i64 (rd h35 (padd a0 2) 0)).bind fun x36 =>
    (nck a0).bind fun _ =>
    (L.asInt .i64 (rd h35 (padd a0 0) 0)).bind fun x37 =>
    (if x37 = 0 then none else (
    (nck a0).bind fun _ =>
    (wr h35 (padd a0 2) [(.int .i64 (Int.tmod (IntKind.i64.wrap (x36 + 1)) x37))]).bind fun h38 =>
    some (0, h38)))))))
abbrev ks36 : List SK := [.one .ref, .agg [(.int .i64), (.int .i64), (.int .i64), (.int .i64), (.int .i64), (.int .i64)]]
abbrev rs36 : List SK := [.one (.int .i64)]
noncomputable def e36 (N : Nat) : Env := ⟨Try.prog, 122, inTab [3, 95], inTab [], natTab [(3, 3), (9, 3), (15, 3), (20, 3), (25, 3), (30, 3), (35, 3), (46, 3), (49, 3), (55, 3), (63, 3), (66, 3), (72, 3)], inTab [], calTab [(65, .ro (mkFun ks65 rs65 (F65 N))), (66, .pure (mkP ks66 rs66 (F66 100)))], altTab [], loopTab []⟩
theorem fine36 (N : Nat) : Fine (e36 N) N 36 Try.f36 ks36 rs36 (F36 N) :=
  ⟨Try.func36, by kernel_rfl, by kernel_rfl, by kernel_rfl, loops_of trivial, by kernel_rfl, by kernel_rfl, fun _ => by kernel_rfl⟩
theorem good36 (N : Nat) : Go.L.Good (e36 N) := good_of ⟨gd65 N, ⟨gd66, trivial⟩⟩
theorem gd36 (N : Nat) : CalOk Try.prog 36 (.full (mkFun ks36 rs36 (F36 N))) := mkFun_good (fine36 N) (good36 N)

/-! ### 50: log.Log).Sum -/
noncomputable def F50 (N : Nat) : V × Int × H → Option (Int × Int × H)
  | (a0, a1, h) =>
    (F65 N (a0, h)).bind fun (x1, _) =>
    (if (!x1) = true then (
    some (true, h))
    else (
    (F66 100 (a1, [])).bind fun (x4, _) =>
    some ((!x4), h))).bind fun (b2, h3) =>
    (if b2 = true then (
    some (0, 0, h3))
    else (
    (nck a0).bind fun _ =>
    (aidx (padd a0 14) a1 11 1).bind fun q5 =>
    (L.asInt .i64 (rd h3 q5 0)).bind fun x6 =>
    (nck a0).bind fun _ =>
    (aidx (padd a0 25) a1 11 1).bind fun q7 =>
    (L.asInt .i64 (rd h3 q7 0)).bind fun x8 =>
    some (x6, x8, h3)))
abbrev ks50 : List SK := [.one .ref, .one (.int .i64)]
abbrev rs50 : List SK := [.one (.int .i64), .one (.int .i64)]
noncomputable def e50 (N : Nat) : Env := ⟨Try.prog, 26, inTab [], inTab [], natTab [], inTab [], calTab [(65, .ro (mkFun ks65 rs65 (F65 N))), (66, .pure (mkP ks66 rs66 (F66 100)))], altTab [], loopTab []⟩
theorem fine50 (N : Nat) : Fine (e50 N) N 50 Try.f50 ks50 rs50 (F50 N) :=
  ⟨Try.func50, by kernel_rfl, by kernel_rfl, by kernel_rfl, loops_of trivial, by kernel_rfl, by kernel_rfl, fun _ => by kernel_rfl⟩
theorem good50 (N : Nat) : Go.L.Good (e50 N) := good_of ⟨gd65 N, ⟨gd66, trivial⟩⟩
theorem gd50 (N : Nat) : CalOk Try.prog 50 (.ro (mkFun ks50 rs50 (F50 N))) := mkFun_ro (fine50 N) (good50 N) (by kernel_rfl)

/-! ### 67: api.Event] -/
noncomputable def F67 (N : Nat) : V × H → Option (V × H)
  | (a0, h) =>
    (isNilS a0).bind fun b1 =>
    (if b1 = true then (
    some (.nils, h))
    else (
    (some (h ++ [O.cells 0 []]) : Option H).bind fun h2 =>
    (scells h2 a0 6).bind fun cs5 =>
    (happ h2 (.sl (h).length 0 0 0 6 (some 0)) 6 (snlen a0) cs5).bind fun (v3, h4) =>
    some (v3, h4)))
abbrev ks67 : List SK := [.one .ref]
abbrev rs67 : List SK := [.one .ref]
noncomputable def e67 (N : Nat) : Env := ⟨Try.prog, 8, inTab [], inTab [], natTab [], inTab [], calTab [], altTab [], loopTab []⟩
theorem fine67 (N : Nat) : Fine (e67 N) N 67 Try.f67 ks67 rs67 (F67 N) :=
  ⟨Try.func67, by kernel_rfl, by kernel_rfl, by kernel_rfl, loops_of trivial, by kernel_rfl, by kernel_rfl, fun _ => by kernel_rfl⟩
theorem good67 (N : Nat) : Go.L.Good (e67 N) := good_of trivial
theorem gd67 (N : Nat) : CalOk Try.prog 67 (.full (mkFun ks67 rs67 (F67 N))) := mkFun_good (fine67 N) (good67 N)

/-! ### 38: log.Log).Events -/
noncomputable def F38 (N : Nat) : V × H → Option (V × H)
  | (a0, h) =>
    (F65 N (a0, h)).bind fun (x1, _) =>
    (if (!x1) = true then (
    some (.nils, h))
    else (
    (nck a0).bind fun _ =>
    ((rd h (padd a0 1) 0)).bind fun x2 =>
    (nck a0).bind fun _ =>
    (L.asInt .i64 (rd h (padd a0 2) 0)).bind fun x3 =>
    (slen x2).bind fun n4 =>
    (ssl 6 x2 x3 n4).bind fun v5 =>
    (F67 N (v5, h)).bind fun (x6, h7) =>
    (nck a0).bind fun _ =>
    ((rd h7 (padd a0 1) 0)).bind fun x8 =>
    (nck a0).bind fun _ =>
    (L.asInt .i64 (rd h7 (padd a0 2) 0)).bind fun x9 =>
    (slen x8).bind fun n10 =>
    (ssl 6 x8 0 x9).bind fun v11 =>
    (scells h7 v11 6).bind fun cs14 =>
    (happ h7 x6 6 (snlen v11) cs14).bind fun (v12, h13) =>
    some (v12, h13)))
abbrev ks38 : List SK := [.one .ref]
abbrev rs38 : List SK := [.one .ref]
noncomputable def e38 (N : Nat) : Env := ⟨Try.prog, 28, inTab [], inTab [], natTab [], inTab [], calTab [(65, .ro (mkFun ks65 rs65 (F65 N))), (67, .full (mkFun ks67 rs67 (F67 N)))], altTab [], loopTab []⟩
theorem fine38 (N : Nat) : Fine (e38 N) N 38 Try.f38 ks38 rs38 (F38 N) :=
  ⟨Try.func38, by kernel_rfl, by kernel_rfl, by kernel_rfl, loops_of trivial, by kernel_rfl, by kernel_rfl, fun _ => by kernel_rfl⟩
theorem good38 (N : Nat) : Go.L.Good (e38 N) := good_of ⟨gd65 N, ⟨gd67 N, trivial⟩⟩
theorem gd38 (N : Nat) : CalOk Try.prog 38 (.full (mkFun ks38 rs38 (F38 N))) := mkFun_good (fine38 N) (good38 N)

/-! ### 39: log.Log).Count -/
noncomputable def F39 (N : Nat) : V × Int × H → Option (Int × H)
  | (a0, a1, h) =>
    (F65 N (a0, h)).bind fun (x1, _) =>
    (if (!x1) = true then (
    some (true, h))
    else (
    (F66 100 (a1, [])).bind fun (x4, _) =>
    some ((!x4), h))).bind fun (b2, h3) =>
    (if b2 = true then (
    some (0, h3))
    else (
    (nck a0).bind fun _ =>
    (aidx (padd a0 3) a1 11 1).bind fun q5 =>
    (L.asInt .i64 (rd h3 q5 0)).bind fun x6 =>
    some (x6, h3)))
abbrev ks39 : List SK := [.one .ref, .one (.int .i64)]
abbrev rs39 : List SK := [.one (.int .i64)]
noncomputable def e39 (N : Nat) : Env := ⟨Try.prog, 19, inTab [], inTab [], natTab [], inTab [], calTab [(65, .ro (mkFun ks65 rs65 (F65 N))), (66, .pure (mkP ks66 rs66 (F66 100)))], altTab [], loopTab []⟩
theorem fine39 (N : Nat) : Fine (e39 N) N 39 Try.f39 ks39 rs39 (F39 N) :=
  ⟨Try.func39, by kernel_rfl, by kernel_rfl, by kernel_rfl, loops_of trivial, by kernel_rfl, by kernel_rfl, fun _ => by kernel_rfl⟩
theorem good39 (N : Nat) : Go.L.Good (e39 N) := good_of ⟨gd65 N, ⟨gd66, trivial⟩⟩
theorem gd39 (N : Nat) : CalOk Try.prog 39 (.ro (mkFun ks39 rs39 (F39 N))) := mkFun_ro (fine39 N) (good39 N) (by kernel_rfl)

/-! ### 40: log.Log).Lost -/
noncomputable def L40_0 (N : Nat) : Nat → V × Int × List V × Int × H → Option (V × Int × H)
  | 0, _ => none
  | n + 1, (x9, x10, cs11, x12, h13) =>
    (if (decide (x12 < 11)) = true then (
    (if 0 ≤ x12 then (if x12 < 11 then (
    (L.asInt .i64 (cs11)[Int.toNat x12 * 1]?).bind fun x14 =>
    L40_0 N n (x9, (IntKind.i64.wrap (x10 + x14)), cs11, (IntKind.i64.wrap (x12 + 1)), h13)) else none) else none))
    else (
    some (x9, x10, h13)))
noncomputable def F40 (N : Nat) : V × H → Option (Int × H)
  | (a0, h) =>
    (F65 N (a0, h)).bind fun (x1, _) =>
    (if (!x1) = true then (
    some (0, h))
    else (
    (nck a0).bind fun _ =>
    (rdN h (padd a0 3) 11).bind fun cs2 =>
    (L40_0 N N (a0, 0, cs2, 0, h)).bind fun (x15, x16, h17) =>
    (nck x15).bind fun _ =>
    ((rd h17 (padd x15 1) 0)).bind fun x18 =>
    (slen x18).bind fun n19 =>
    some ((IntKind.i64.wrap (x16 - n19)), h17)))
abbrev ks40 : List SK := [.one .ref]
abbrev rs40 : List SK := [.one (.int .i64)]
noncomputable def e40 (N : Nat) : Env := ⟨Try.prog, 27, inTab [], inTab [], natTab [], inTab [], calTab [(65, .ro (mkFun ks65 rs65 (F65 N)))], altTab [], loopTab [(5, ⟨⟨.normal, [0, 3, 12, 13], [.one .ref, .one (.int .i64), .blk, .one (.int .i64)], [], []⟩, [⟨(.exit 0), [0, 3], [.one .ref, .one (.int .i64)], [], []⟩], L40_0 N⟩)]⟩
theorem l40_0 (N : Nat) : ∀ A, (e40 N).lp (lid (loopAt Try.f40 0)) = some A → LoopOk (e40 N) N (loopAt Try.f40 0) A :=
  loopOk_of (A := ⟨⟨.normal, [0, 3, 12, 13], [.one .ref, .one (.int .i64), .blk, .one (.int .i64)], [], []⟩, [⟨(.exit 0), [0, 3], [.one .ref, .one (.int .i64)], [], []⟩], L40_0 N⟩) (by kernel_rfl) (fun _ => rfl) (fun _ _ => by kernel_rfl)
theorem fine40 (N : Nat) : Fine (e40 N) N 40 Try.f40 ks40 rs40 (F40 N) :=
  ⟨Try.func40, by kernel_rfl, by kernel_rfl, by kernel_rfl, loops_of ⟨l40_0 N, trivial⟩, by kernel_rfl, by kernel_rfl, fun _ => by kernel_rfl⟩
theorem good40 (N : Nat) : Go.L.Good (e40 N) := good_of ⟨gd65 N, trivial⟩
theorem gd40 (N : Nat) : CalOk Try.prog 40 (.ro (mkFun ks40 rs40 (F40 N))) := mkFun_ro (fine40 N) (good40 N) (by kernel_rfl)

/-! ### 35: carousellaw20.awake -/
noncomputable def L35_0 (N : Nat) : Nat → V × Int × H → Option ((V × H) ⊕ (Bool × H))
  | 0, _ => none
  | n + 1, (x12, x13, h14) =>
    (if (decide (x13 < 3)) = true then (
    (F36 N (x12, 6, 0, 0, 0, x13, 0, h14)).bind fun (x15, h16) =>
    (if (x15 != 0) = true then (
    some (.inr (false, h16)))
    else (
    L35_0 N n (x12, (IntKind.i64.wrap (x13 + 1)), h16))))
    else (
    some (.inl (x12, h14))))
noncomputable def F35 (N : Nat) : H → Option (Bool × H)
  | h =>
    (F33 N (2, h)).bind fun (x1, x2, h3) =>
    (if (x2 != 0) = true then (
    some (true, h3))
    else (
    (isNil x1).bind fun b6 =>
    some (b6, h3))).bind fun (b4, h5) =>
    (if b4 = true then (
    some (false, h5))
    else (
    (L35_0 N N (x1, 0, h5)).bind fun o17 => match o17 with
    | .inl (x18, h19) => (
    (F50 N (x18, 6, h19)).bind fun (x20, x21, _) =>
    (F38 N (x18, h19)).bind fun (x22, h23) =>
    (F39 N (x18, 6, h23)).bind fun (x24, _) =>
    (if (x24 == 3) = true then (
    some ((x20 == 3), h23))
    else (
    some (false, h23))).bind fun (b25, h26) =>
    (if b25 = true then (
    some ((x21 == 0), h26))
    else (
    some (false, h26))).bind fun (b27, h28) =>
    (if b27 = true then (
    (F40 N (x18, h28)).bind fun (x31, _) =>
    some ((x31 == 1), h28))
    else (
    some (false, h28))).bind fun (b29, h30) =>
    (if b29 = true then (
    (slen x22).bind fun n34 =>
    some ((n34 == 2), h30))
    else (
    some (false, h30))).bind fun (b32, h33) =>
    (if b32 = true then (
    (sidx x22 0 6).bind fun q37 =>
    (L.asInt .i64 (rd h33 (padd q37 4) 0)).bind fun x38 =>
    some ((x38 == 1), h33))
    else (
    some (false, h33))).bind fun (b35, h36) =>
    some (b35, h36))
    | .inr (x39, h40) => (
    some (x39, h40))))
abbrev ks35 : List SK := []
abbrev rs35 : List SK := [.one .bool]
noncomputable def e35 (N : Nat) : Env := ⟨Try.prog, 61, inTab [], inTab [], natTab [], inTab [], calTab [(33, .full (mkFun ks33 rs33 (F33 N))), (36, .full (mkFun ks36 rs36 (F36 N))), (50, .ro (mkFun ks50 rs50 (F50 N))), (38, .full (mkFun ks38 rs38 (F38 N))), (39, .ro (mkFun ks39 rs39 (F39 N))), (40, .ro (mkFun ks40 rs40 (F40 N)))], altTab [], loopTab [(5, ⟨⟨.normal, [1, 3], [.one .ref, .one (.int .i64)], [], []⟩, [⟨(.exit 0), [1], [.one .ref], [], []⟩, ⟨.ret, [0], [.one .bool], [], []⟩], L35_0 N⟩)]⟩
theorem l35_0 (N : Nat) : ∀ A, (e35 N).lp (lid (loopAt Try.f35 0)) = some A → LoopOk (e35 N) N (loopAt Try.f35 0) A :=
  loopOk_of (A := ⟨⟨.normal, [1, 3], [.one .ref, .one (.int .i64)], [], []⟩, [⟨(.exit 0), [1], [.one .ref], [], []⟩, ⟨.ret, [0], [.one .bool], [], []⟩], L35_0 N⟩) (by kernel_rfl) (fun _ => rfl) (fun _ _ => by kernel_rfl)
theorem fine35 (N : Nat) : Fine (e35 N) N 35 Try.f35 ks35 rs35 (F35 N) :=
  ⟨Try.func35, by kernel_rfl, by kernel_rfl, by kernel_rfl, loops_of ⟨l35_0 N, trivial⟩, by kernel_rfl, by kernel_rfl, fun _ => by kernel_rfl⟩
theorem good35 (N : Nat) : Go.L.Good (e35 N) := good_of ⟨gd33 N, ⟨gd36 N, ⟨gd50 N, ⟨gd38 N, ⟨gd39 N, ⟨gd40 N, trivial⟩⟩⟩⟩⟩⟩
theorem gd35 : CalOk Try.prog 35 (.pure (mkP ks35 rs35 (F35 100))) := mkP_good (fine35 100) (good35 100) (by kernel_rfl) (by kernel_rfl)

/-! ### 37: carouselref20.May -/
noncomputable def F37 (N : Nat) : Int × Int × Int × Int × Int × Int × H → Option (Bool × H)
  | (a0_0, a0_1, a0_2, a0_3, a0_4, a0_5, h) =>
    (if (decide (a0_0 ≥ 1)) = true then (
    some ((decide (a0_0 ≤ 10)), h))
    else (
    some (false, h))).bind fun (b1, h2) =>
    (if b1 = true then (
    some ((decide (a0_4 ≥ 0)), h2))
    else (
    some (false, h2))).bind fun (b3, h4) =>
    (if b3 = true then (
    some ((decide (a0_4 ≤ 4611686018427387903)), h4))
    else (
    some (false, h4))).bind fun (b5, h6) =>
    (if b5 = true then (
    some ((decide (a0_5 ≥ 0)), h6))
    else (
    some (false, h6))).bind fun (b7, h8) =>
    (if b7 = true then (
    some ((decide (a0_5 ≤ 4611686018427387903)), h8))
    else (
    some (false, h8))).bind fun (b9, h10) =>
    some (b9, h10)
abbrev ks37 : List SK := [.agg [(.int .i64), (.int .i64), (.int .i64), (.int .i64), (.int .i64), (.int .i64)]]
abbrev rs37 : List SK := [.one .bool]
noncomputable def e37 (N : Nat) : Env := ⟨Try.prog, 31, inTab [1], inTab [], natTab [(1, 1), (3, 1), (7, 1), (12, 1), (17, 1), (22, 1), (27, 1)], inTab [], calTab [], altTab [], loopTab []⟩
theorem fine37 (N : Nat) : Fine (e37 N) N 37 Try.f37 ks37 rs37 (F37 N) :=
  ⟨Try.func37, by kernel_rfl, by kernel_rfl, by kernel_rfl, loops_of trivial, by kernel_rfl, by kernel_rfl, fun _ => by kernel_rfl⟩
theorem good37 (N : Nat) : Go.L.Good (e37 N) := good_of trivial
theorem gd37 : CalOk Try.prog 37 (.pure (mkP ks37 rs37 (F37 100))) := mkP_good (fine37 100) (good37 100) (by kernel_rfl) (by kernel_rfl)

/-! ### 41: carouselref20.Same -/
noncomputable def L41_0 (N : Nat) : Nat → V × V × Int × H → Option ((H) ⊕ (Bool × H))
  | 0, _ => none
  | n + 1, (x22, x23, x24, h25) =>
    (slen x22).bind fun n26 =>
    (if (decide (x24 < n26)) = true then (
    (sidx x22 x24 6).bind fun q27 =>
    (L.asInt .i64 (rd h25 q27 0)).bind fun x28 =>
    (L.asInt .i64 (rd h25 q27 1)).bind fun x29 =>
    (L.asInt .i64 (rd h25 q27 2)).bind fun x30 =>
    (L.asInt .i64 (rd h25 q27 3)).bind fun x31 =>
    (L.asInt .i64 (rd h25 q27 4)).bind fun x32 =>
    (L.asInt .i64 (rd h25 q27 5)).bind fun x33 =>
    (sidx x23 x24 6).bind fun q34 =>
    (L.asInt .i64 (rd h25 q34 0)).bind fun x35 =>
    (L.asInt .i64 (rd h25 q34 1)).bind fun x36 =>
    (L.asInt .i64 (rd h25 q34 2)).bind fun x37 =>
    (L.asInt .i64 (rd h25 q34 3)).bind fun x38 =>
    (L.asInt .i64 (rd h25 q34 4)).bind fun x39 =>
    (L.asInt .i64 (rd h25 q34 5)).bind fun x40 =>
    (if (!((x28 == x35) && ((x29 == x36) && (((x30 == x37) && ((x31 == x38) && true)) && ((x32 == x39) && ((x33 == x40) && true)))))) = true then (
    some (.inr (false, h25)))
    else (
    L41_0 N n (x22, x23, (IntKind.i64.wrap (x24 + 1)), h25))))
    else (
    some (.inl h25)))
noncomputable def F41 (N : Nat) : V × V × H → Option (Bool × H)
  | (a0, a1, h) =>
    (slen a0).bind fun n1 =>
    (slen a1).bind fun n2 =>
    (if (n1 != n2) = true then (
    some (false, h))
    else (
    (L41_0 N N (a0, a1, 0, h)).bind fun o41 => match o41 with
    | .inl h42 => (
    some (true, h42))
    | .inr (x43, h44) => (
    some (x43, h44))))
abbrev ks41 : List SK := [.one .ref, .one .ref]
abbrev rs41 : List SK := [.one .bool]
noncomputable def e41 (N : Nat) : Env := ⟨Try.prog, 26, inTab [], inTab [], natTab [], inTab [], calTab [], altTab [], loopTab [(4, ⟨⟨.normal, [0, 1, 5], [.one .ref, .one .ref, .one (.int .i64)], [], []⟩, [⟨(.exit 0), [], [], [], []⟩, ⟨.ret, [4], [.one .bool], [], []⟩], L41_0 N⟩)]⟩
theorem l41_0 (N : Nat) : ∀ A, (e41 N).lp (lid (loopAt Try.f41 0)) = some A → LoopOk (e41 N) N (loopAt Try.f41 0) A :=
  loopOk_of (A := ⟨⟨.normal, [0, 1, 5], [.one .ref, .one .ref, .one (.int .i64)], [], []⟩, [⟨(.exit 0), [], [], [], []⟩, ⟨.ret, [4], [.one .bool], [], []⟩], L41_0 N⟩) (by kernel_rfl) (fun _ => rfl) (fun _ _ => by kernel_rfl)
theorem fine41 (N : Nat) : Fine (e41 N) N 41 Try.f41 ks41 rs41 (F41 N) :=
  ⟨Try.func41, by kernel_rfl, by kernel_rfl, by kernel_rfl, loops_of ⟨l41_0 N, trivial⟩, by kernel_rfl, by kernel_rfl, fun _ => by kernel_rfl⟩
theorem good41 (N : Nat) : Go.L.Good (e41 N) := good_of trivial
theorem gd41 (N : Nat) : CalOk Try.prog 41 (.ro (mkFun ks41 rs41 (F41 N))) := mkFun_ro (fine41 N) (good41 N) (by kernel_rfl)

/-! ### 69: log.Log).Of$1 -/
noncomputable def F69 (N : Nat) : Int × Int × Int × Int × Int × Int × V × H → Option (Bool × H)
  | (a0_0, a0_1, a0_2, a0_3, a0_4, a0_5, a1, h) =>
    (L.asInt .i64 (rd h a1 0)).bind fun x1 =>
    (L.asInt .i64 (rd h a1 1)).bind fun x2 =>
    some ((!((a0_2 == x1) && ((a0_3 == x2) && true))), h)
abbrev ks69 : List SK := [.agg [(.int .i64), (.int .i64), (.int .i64), (.int .i64), (.int .i64), (.int .i64)], .one .ref]
abbrev rs69 : List SK := [.one .bool]
noncomputable def e69 (N : Nat) : Env := ⟨Try.prog, 8, inTab [2], inTab [], natTab [(2, 2), (4, 2)], inTab [], calTab [], altTab [], loopTab []⟩
theorem fine69 (N : Nat) : Fine (e69 N) N 69 Try.f69 ks69 rs69 (F69 N) :=
  ⟨Try.func69, by kernel_rfl, by kernel_rfl, by kernel_rfl, loops_of trivial, by kernel_rfl, by kernel_rfl, fun _ => by kernel_rfl⟩
theorem good69 (N : Nat) : Go.L.Good (e69 N) := good_of trivial
theorem gd69 (N : Nat) : CalOk Try.prog 69 (.ro (mkFun ks69 rs69 (F69 N))) := mkFun_ro (fine69 N) (good69 N) (by kernel_rfl)

/-! ### 82: api.Event] -/
noncomputable def L82_0 (N : Nat) : Nat → V × V × Int × Int × H → Option ((H) ⊕ (Int × H))
  | 0, _ => none
  | n + 1, (x15, x16, x17, x18, h19) =>
    (if (decide (x18 < x17)) = true then (
    (sidx x15 x18 6).bind fun q20 =>
    (L.asInt .i64 (rd h19 q20 0)).bind fun x21 =>
    (L.asInt .i64 (rd h19 q20 1)).bind fun x22 =>
    (L.asInt .i64 (rd h19 q20 2)).bind fun x23 =>
    (L.asInt .i64 (rd h19 q20 3)).bind fun x24 =>
    (L.asInt .i64 (rd h19 q20 4)).bind fun x25 =>
    (L.asInt .i64 (rd h19 q20 5)).bind fun x26 =>
    (F69 N (x21, x22, x23, x24, x25, x26, x16, h19)).bind fun (x27, _) =>
    (if x27 = true then (
    some (.inr (x18, h19)))
    else (
    L82_0 N n (x15, x16, x17, (IntKind.i64.wrap (x18 + 1)), h19))))
    else (
    some (.inl h19)))
noncomputable def F82 (N : Nat) : V × V × H → Option (Int × H)
  | (a0, a1_0, h) =>
    (slen a0).bind fun n1 =>
    (L82_0 N N (a0, a1_0, n1, 0, h)).bind fun o28 => match o28 with
    | .inl h29 => (
    some ((-1), h29))
    | .inr (x30, h31) => (
    some (x30, h31))
abbrev ks82 : List SK := [.one .ref, .clo 69 [.ref]]
abbrev rs82 : List SK := [.one (.int .i64)]
noncomputable def e82 (N : Nat) : Env := ⟨Try.prog, 19, inTab [], inTab [], natTab [], inTab [], calTab [(69, .ro (mkFun ks69 rs69 (F69 N)))], altTab [], loopTab [(2, ⟨⟨.normal, [0, 1, 7, 8], [.one .ref, .clo 69 [.ref], .one (.int .i64), .one (.int .i64)], [], []⟩, [⟨(.exit 0), [], [], [], []⟩, ⟨.ret, [4], [.one (.int .i64)], [], []⟩], L82_0 N⟩)]⟩
theorem l82_0 (N : Nat) : ∀ A, (e82 N).lp (lid (loopAt Try.f82 0)) = some A → LoopOk (e82 N) N (loopAt Try.f82 0) A :=
  loopOk_of (A := ⟨⟨.normal, [0, 1, 7, 8], [.one .ref, .clo 69 [.ref], .one (.int .i64), .one (.int .i64)], [], []⟩, [⟨(.exit 0), [], [], [], []⟩, ⟨.ret, [4], [.one (.int .i64)], [], []⟩], L82_0 N⟩) (by kernel_rfl) (fun _ => rfl) (fun _ _ => by kernel_rfl)
theorem fine82 (N : Nat) : Fine (e82 N) N 82 Try.f82 ks82 rs82 (F82 N) :=
  ⟨Try.func82, by kernel_rfl, by kernel_rfl, by kernel_rfl, loops_of ⟨l82_0 N, trivial⟩, by kernel_rfl, by kernel_rfl, fun _ => by kernel_rfl⟩
theorem good82 (N : Nat) : Go.L.Good (e82 N) := good_of ⟨gd69 N, trivial⟩
theorem gd82 (N : Nat) : CalOk Try.prog 82 (.full (mkFun ks82 rs82 (F82 N))) := mkFun_good (fine82 N) (good82 N)

/-! ### 68: api.Event] -/
noncomputable def L68_0 (N : Nat) : Nat → V × V × Int × Int × H → Option (V × Int × H)
  | 0, _ => none
  | n + 1, (x24, x25, x26, x27, h28) =>
    (slen x24).bind fun n29 =>
    (if (decide (x27 < n29)) = true then (
    (sidx x24 x27 6).bind fun q30 =>
    (L.asInt .i64 (rd h28 q30 0)).bind fun x31 =>
    (L.asInt .i64 (rd h28 q30 1)).bind fun x32 =>
    (L.asInt .i64 (rd h28 q30 2)).bind fun x33 =>
    (L.asInt .i64 (rd h28 q30 3)).bind fun x34 =>
    (L.asInt .i64 (rd h28 q30 4)).bind fun x35 =>
    (L.asInt .i64 (rd h28 q30 5)).bind fun x36 =>
    (F69 N (x31, x32, x33, x34, x35, x36, x25, h28)).bind fun (x37, _) =>
    ((if (!x37) = true then (
    (sidx x24 x26 6).bind fun q38 =>
    (wr h28 q38 [(.int .i64 x31), (.int .i64 x32), (.int .i64 x33), (.int .i64 x34), (.int .i64 x35), (.int .i64 x36)]).bind fun h39 =>
    some (x24, x25, (IntKind.i64.wrap (x26 + 1)), x27, h39))
    else (
    some (x24, x25, x26, x27, h28))) : Option (V × V × Int × Int × H)).bind fun (x40, x41, x42, x43, h44) =>
    L68_0 N n (x40, x41, x42, (IntKind.i64.wrap (x43 + 1)), h44))
    else (
    some (x24, x26, h28)))
noncomputable def F68 (N : Nat) : V × V × H → Option (V × H)
  | (a0, a1_0, h) =>
    (F82 N (a0, a1_0, h)).bind fun (x1, h2) =>
    (if (x1 == (-1)) = true then (
    some (a0, h2))
    else (
    (L68_0 N N (a0, a1_0, x1, (IntKind.i64.wrap (x1 + 1)), h2)).bind fun (x45, x46, h47) =>
    (slen x45).bind fun n48 =>
    (ssl 6 x45 x46 n48).bind fun v49 =>
    (hwrAll h47 v49 6 (repeatC (snlen v49) (List.replicate 6 (.int .i64 0)))).bind fun h50 =>
    (slen x45).bind fun n51 =>
    (ssl 6 x45 0 x46).bind fun v52 =>
    some (v52, h50)))
abbrev ks68 : List SK := [.one .ref, .clo 69 [.ref]]
abbrev rs68 : List SK := [.one .ref]
noncomputable def e68 (N : Nat) : Env := ⟨Try.prog, 42, inTab [7], inTab [], natTab [(7, 7)], inTab [], calTab [(82, .full (mkFun ks82 rs82 (F82 N))), (69, .ro (mkFun ks69 rs69 (F69 N)))], altTab [(29, [⟨.normal, [0, 1, 5, 6], [.one .ref, .clo 69 [.ref], .one (.int .i64), .one (.int .i64)], [], []⟩])], loopTab [(5, ⟨⟨.normal, [0, 1, 5, 6], [.one .ref, .clo 69 [.ref], .one (.int .i64), .one (.int .i64)], [], []⟩, [⟨(.exit 0), [0, 5], [.one .ref, .one (.int .i64)], [], []⟩], L68_0 N⟩)]⟩
theorem l68_0 (N : Nat) : ∀ A, (e68 N).lp (lid (loopAt Try.f68 0)) = some A → LoopOk (e68 N) N (loopAt Try.f68 0) A :=
  loopOk_of (A := ⟨⟨.normal, [0, 1, 5, 6], [.one .ref, .clo 69 [.ref], .one (.int .i64), .one (.int .i64)], [], []⟩, [⟨(.exit 0), [0, 5], [.one .ref, .one (.int .i64)], [], []⟩], L68_0 N⟩) (by kernel_rfl) (fun _ => rfl) (fun _ _ => by kernel_rfl)
theorem fine68 (N : Nat) : Fine (e68 N) N 68 Try.f68 ks68 rs68 (F68 N) :=
  ⟨Try.func68, by kernel_rfl, by kernel_rfl, by kernel_rfl, loops_of ⟨l68_0 N, trivial⟩, by kernel_rfl, by kernel_rfl, fun _ => by kernel_rfl⟩
theorem good68 (N : Nat) : Go.L.Good (e68 N) := good_of ⟨gd82 N, ⟨gd69 N, trivial⟩⟩
theorem gd68 (N : Nat) : CalOk Try.prog 68 (.full (mkFun ks68 rs68 (F68 N))) := mkFun_good (fine68 N) (good68 N)

/-! ### 42: log.Log).Of -/
noncomputable def F42 (N : Nat) : V × Int × Int × H → Option (V × H)
  | (a0, a1_0, a1_1, h) =>
    (some (h ++ [O.cells 0 [(.int .i64 a1_0), (.int .i64 a1_1)]]) : Option H).bind fun h1 =>
    (F38 N (a0, h1)).bind fun (x2, h3) =>
    (F68 N (x2, (.ptr (h).length 0 0), h3)).bind fun (x4, h5) =>
    some (x4, h5)
abbrev ks42 : List SK := [.one .ref, .agg [(.int .i64), (.int .i64)]]
abbrev rs42 : List SK := [.one .ref]
noncomputable def e42 (N : Nat) : Env := ⟨Try.prog, 9, inTab [], inTab [], natTab [], inTab [], calTab [(38, .full (mkFun ks38 rs38 (F38 N))), (68, .full (mkFun ks68 rs68 (F68 N)))], altTab [], loopTab []⟩
theorem fine42 (N : Nat) : Fine (e42 N) N 42 Try.f42 ks42 rs42 (F42 N) :=
  ⟨Try.func42, by kernel_rfl, by kernel_rfl, by kernel_rfl, loops_of trivial, by kernel_rfl, by kernel_rfl, fun _ => by kernel_rfl⟩
theorem good42 (N : Nat) : Go.L.Good (e42 N) := good_of ⟨gd38 N, ⟨gd68 N, trivial⟩⟩
theorem gd42 (N : Nat) : CalOk Try.prog 42 (.full (mkFun ks42 rs42 (F42 N))) := mkFun_good (fine42 N) (good42 N)

/-! ### 7: carousellaw20.LogLast -/
noncomputable def L7_0 (N : Nat) : Nat → Int × V × V × V × Int × H → Option ((Int × V × V × H) ⊕ (Bool × H))
  | 0, _ => none
  | n + 1, (x63, x64, x65, x66, x67, h68) =>
    (slen x64).bind fun n69 =>
    (if (decide (x67 < n69)) = true then (
    (sidx x64 x67 6).bind fun q70 =>
    (L.asInt .i64 (rd h68 q70 0)).bind fun x71 =>
    (L.asInt .i64 (rd h68 q70 1)).bind fun x72 =>
    (L.asInt .i64 (rd h68 q70 2)).bind fun x73 =>
    (L.asInt .i64 (rd h68 q70 3)).bind fun x74 =>
    (L.asInt .i64 (rd h68 q70 4)).bind fun x75 =>
    (L.asInt .i64 (rd h68 q70 5)).bind fun x76 =>
    (F36 N (x65, x71, x72, x73, x74, x75, x76, h68)).bind fun (x77, h78) =>
    (sidx x64 x67 6).bind fun q79 =>
    (L.asInt .i64 (rdRo q79 0)).bind fun x80 =>
    (L.asInt .i64 (rdRo q79 1)).bind fun x81 =>
    (L.asInt .i64 (rdRo q79 2)).bind fun x82 =>
    (L.asInt .i64 (rdRo q79 3)).bind fun x83 =>
    (L.asInt .i64 (rdRo q79 4)).bind fun x84 =>
    (L.asInt .i64 (rdRo q79 5)).bind fun x85 =>
    (F37 100 (x80, x81, x82, x83, x84, x85, [])).bind fun (x86, _) =>
    (if (!((x77 == 0) == x86)) = true then (
    some (.inr (false, h78)))
    else (
    (sidx x64 x67 6).bind fun q87 =>
    (L.asInt .i64 (rd h78 q87 0)).bind fun x88 =>
    (L.asInt .i64 (rd h78 q87 1)).bind fun x89 =>
    (L.asInt .i64 (rd h78 q87 2)).bind fun x90 =>
    (L.asInt .i64 (rd h78 q87 3)).bind fun x91 =>
    (L.asInt .i64 (rd h78 q87 4)).bind fun x92 =>
    (L.asInt .i64 (rd h78 q87 5)).bind fun x93 =>
    (F37 100 (x88, x89, x90, x91, x92, x93, [])).bind fun (x94, _) =>
    ((if x94 = true then (
    (sidx x64 x67 6).bind fun q95 =>
    (L.asInt .i64 (rd h78 q95 0)).bind fun x96 =>
    (L.asInt .i64 (rd h78 q95 1)).bind fun x97 =>
    (L.asInt .i64 (rd h78 q95 2)).bind fun x98 =>
    (L.asInt .i64 (rd h78 q95 3)).bind fun x99 =>
    (L.asInt .i64 (rd h78 q95 4)).bind fun x100 =>
    (L.asInt .i64 (rd h78 q95 5)).bind fun x101 =>
    (happ h78 x66 6 1 [(.int .i64 x96), (.int .i64 x97), (.int .i64 x98), (.int .i64 x99), (.int .i64 x100), (.int .i64 x101)]).bind fun (v102, h103) =>
    some (x63, x64, x65, v102, x67, h103))
    else (
    some (x63, x64, x65, x66, x67, h78))) : Option (Int × V × V × V × Int × H)).bind fun (x104, x105, x106, x107, x108, h109) =>
    L7_0 N n (x104, x105, x106, x107, (IntKind.i64.wrap (x108 + 1)), h109))))
    else (
    some (.inl (x63, x65, x66, h68))))
noncomputable def L7_1 (N : Nat) : Nat → Int × V × V × V × Int × Int × Int × Int × H → Option (Int × V × V × V × Int × Int × Int × H)
  | 0, _ => none
  | n + 1, (x128, x129, x130, x131, x132, x133, x134, x135, h136) =>
    (if (decide (x135 ≤ 10)) = true then (
    (F39 N (x129, x135, h136)).bind fun (x137, _) =>
    L7_1 N n (x128, x129, x130, x131, x132, (IntKind.i64.wrap (x133 + x137)), x134, (IntKind.i64.wrap (x135 + 1)), h136))
    else (
    some (x128, x129, x130, x131, x132, x133, x134, h136)))
noncomputable def L7_3 (N : Nat) : Nat → V × V × Int × Int × Bool × Int × H → Option (V × V × Int × Int × Bool × H)
  | 0, _ => none
  | n + 1, (x180, x181, x182, x183, x184, x185, h186) =>
    (if (decide (x185 < x183)) = true then (
    (if x184 = true then (
    (sidx x181 x185 6).bind fun q189 =>
    (L.asInt .i64 (rd h186 (padd q189 2) 0)).bind fun x190 =>
    (L.asInt .i64 (rd h186 (padd q189 2) 1)).bind fun x191 =>
    (sidx x181 x183 6).bind fun q192 =>
    (L.asInt .i64 (rd h186 (padd q192 2) 0)).bind fun x193 =>
    (L.asInt .i64 (rd h186 (padd q192 2) 1)).bind fun x194 =>
    some ((!((x190 == x193) && ((x191 == x194) && true))), h186))
    else (
    some (false, h186))).bind fun (b187, h188) =>
    L7_3 N n (x180, x181, x182, x183, b187, (IntKind.i64.wrap (x185 + 1)), h188))
    else (
    some (x180, x181, x182, x183, x184, h186)))
noncomputable def L7_2 (N : Nat) : Nat → V × V × Int × Int × H → Option (V × Int × H)
  | 0, _ => none
  | n + 1, (x212, x213, x214, x215, h216) =>
    (slen x213).bind fun n217 =>
    (if (decide (x215 < n217)) = true then (
    (L7_3 N N (x212, x213, x214, x215, true, 0, h216)).bind fun (x218, x219, x220, x221, x222, h223) =>
    ((if x222 = true then (
    (sidx x219 x221 6).bind fun q224 =>
    (L.asInt .i64 (rd h223 (padd q224 2) 0)).bind fun x225 =>
    (L.asInt .i64 (rd h223 (padd q224 2) 1)).bind fun x226 =>
    (F42 N (x218, x225, x226, h223)).bind fun (x227, h228) =>
    (slen x227).bind fun n229 =>
    some (x218, x219, (IntKind.i64.wrap (x220 + n229)), x221, h228))
    else (
    some (x218, x219, x220, x221, h223))) : Option (V × V × Int × Int × H)).bind fun (x230, x231, x232, x233, h234) =>
    L7_2 N n (x230, x231, x232, (IntKind.i64.wrap (x233 + 1)), h234))
    else (
    some (x213, x214, h216)))
noncomputable def F7 (N : Nat) : Int × V × H → Option (Bool × H)
  | (a0, a1, h) =>
    (F33 N (a0, h)).bind fun (x1, x2, h3) =>
    (if (x2 != 0) = true then (
    some (true, h3))
    else (
    (isNil x1).bind fun b6 =>
    some (b6, h3))).bind fun (b4, h5) =>
    (if b4 = true then (
    (F34 N (a0, h5)).bind fun (cs7, x8, _) =>
    (L.asAgg 35 (some (.agg cs7))).bind fun cs9 =>
    (if (cs9).length = 35 then (
    (if 0 + (cs9).length ≤ 35 then (
    (if (x2 == x8) = true then (
    (isNil x1).bind fun b12 =>
    some (b12, h5))
    else (
    some (false, h5))).bind fun (b10, h11) =>
    (if b10 = true then (
    (F35 100 []).bind fun (x15, _) =>
    some (x15, h11))
    else (
    some (false, h11))).bind fun (b13, h14) =>
    some (b13, h14)) else none)) else none))
    else (
    (L7_0 N N (a0, a1, x1, .nils, 0, h5)).bind fun o110 => match o110 with
    | .inl (x111, x112, x113, h114) => (
    (F38 N (x112, h114)).bind fun (x115, h116) =>
    (slen x113).bind fun n117 =>
    (L7_1 N N (x111, x112, x113, x115, n117, 0, 0, 1, h116)).bind fun (x138, x139, x140, x141, x142, x143, x144, h145) =>
    (if (x143 != x142) = true then (
    some (true, h145))
    else (
    (slen x141).bind fun n148 =>
    some ((n148 != (if x138 < x142 then x138 else x142)), h145))).bind fun (b146, h147) =>
    (if b146 = true then (
    some (true, h147))
    else (
    (F40 N (x139, h147)).bind fun (x151, _) =>
    (slen x141).bind fun n152 =>
    some ((x151 != (IntKind.i64.wrap (x142 - n152))), h147))).bind fun (b149, h150) =>
    (if b149 = true then (
    some (true, h150))
    else (
    (slen x141).bind fun n155 =>
    (slen x140).bind fun n156 =>
    (ssl 6 x140 (IntKind.i64.wrap (x142 - n155)) n156).bind fun v157 =>
    (F41 N (x141, v157, h150)).bind fun (x158, _) =>
    some ((!x158), h150))).bind fun (b153, h154) =>
    (if b153 = true then (
    some (false, h154))
    else (
    (L7_2 N N (x139, x141, x144, 0, h154)).bind fun (x235, x236, h237) =>
    (slen x235).bind fun n238 =>
    (if (x236 == n238) = true then (
    (F35 100 []).bind fun (x241, _) =>
    some (x241, h237))
    else (
    some (false, h237))).bind fun (b239, h240) =>
    some (b239, h240))))
    | .inr (x242, h243) => (
    some (x242, h243))))
abbrev ks7 : List SK := [.one (.int .i64), .one .ref]
abbrev rs7 : List SK := [.one .bool]
noncomputable def e7 (N : Nat) : Env := ⟨Try.prog, 163, inTab [7, 74], inTab [], natTab [(7, 7)], inTab [61], calTab [(33, .full (mkFun ks33 rs33 (F33 N))), (34, .ro (mkFun ks34 rs34 (F34 N))), (35, .pure (mkP ks35 rs35 (F35 100))), (36, .full (mkFun ks36 rs36 (F36 N))), (37, .pure (mkP ks37 rs37 (F37 100))), (38, .full (mkFun ks38 rs38 (F38 N))), (39, .ro (mkFun ks39 rs39 (F39 N))), (40, .ro (mkFun ks40 rs40 (F40 N))), (41, .ro (mkFun ks41 rs41 (F41 N))), (42, .full (mkFun ks42 rs42 (F42 N)))], altTab [(68, [⟨.normal, [0, 1, 5, 9, 10], [.one (.int .i64), .one .ref, .one .ref, .one .ref, .one (.int .i64)], [], []⟩]), (145, [⟨.normal, [5, 11, 14, 16], [.one .ref, .one .ref, .one (.int .i64), .one (.int .i64)], [], []⟩])], loopTab [(7, ⟨⟨.normal, [0, 1, 5, 9, 10], [.one (.int .i64), .one .ref, .one .ref, .one .ref, .one (.int .i64)], [], []⟩, [⟨(.exit 0), [0, 5, 9], [.one (.int .i64), .one .ref, .one .ref], [], []⟩, ⟨.ret, [4], [.one .bool], [], []⟩], L7_0 N⟩), (16, ⟨⟨.normal, [0, 5, 9, 11, 12, 13, 14, 15], [.one (.int .i64), .one .ref, .one .ref, .one .ref, .one (.int .i64), .one (.int .i64), .one (.int .i64), .one (.int .i64)], [], []⟩, [⟨(.exit 2), [0, 5, 9, 11, 12, 13, 14], [.one (.int .i64), .one .ref, .one .ref, .one .ref, .one (.int .i64), .one (.int .i64), .one (.int .i64)], [], []⟩], L7_1 N⟩), (22, ⟨⟨.normal, [5, 11, 14, 16], [.one .ref, .one .ref, .one (.int .i64), .one (.int .i64)], [], []⟩, [⟨(.exit 4), [11, 14], [.one .ref, .one (.int .i64)], [], []⟩], L7_2 N⟩), (26, ⟨⟨.normal, [5, 11, 14, 16, 17, 18], [.one .ref, .one .ref, .one (.int .i64), .one (.int .i64), .one .bool, .one (.int .i64)], [], []⟩, [⟨(.exit 6), [5, 11, 14, 16, 17], [.one .ref, .one .ref, .one (.int .i64), .one (.int .i64), .one .bool], [], []⟩], L7_3 N⟩)]⟩
theorem l7_0 (N : Nat) : ∀ A, (e7 N).lp (lid (loopAt Try.f7 0)) = some A → LoopOk (e7 N) N (loopAt Try.f7 0) A :=
  loopOk_of (A := ⟨⟨.normal, [0, 1, 5, 9, 10], [.one (.int .i64), .one .ref, .one .ref, .one .ref, .one (.int .i64)], [], []⟩, [⟨(.exit 0), [0, 5, 9], [.one (.int .i64), .one .ref, .one .ref], [], []⟩, ⟨.ret, [4], [.one .bool], [], []⟩], L7_0 N⟩) (by kernel_rfl) (fun _ => rfl) (fun _ _ => by kernel_rfl)
theorem l7_1 (N : Nat) : ∀ A, (e7 N).lp (lid (loopAt Try.f7 1)) = some A → LoopOk (e7 N) N (loopAt Try.f7 1) A :=
  loopOk_of (A := ⟨⟨.normal, [0, 5, 9, 11, 12, 13, 14, 15], [.one (.int .i64), .one .ref, .one .ref, .one .ref, .one (.int .i64), .one (.int .i64), .one (.int .i64), .one (.int .i64)], [], []⟩, [⟨(.exit 2), [0, 5, 9, 11, 12, 13, 14], [.one (.int .i64), .one .ref, .one .ref, .one .ref, .one (.int .i64), .one (.int .i64), .one (.int .i64)], [], []⟩], L7_1 N⟩) (by kernel_rfl) (fun _ => rfl) (fun _ _ => by kernel_rfl)
theorem l7_2 (N : Nat) : ∀ A, (e7 N).lp (lid (loopAt Try.f7 2)) = some A → LoopOk (e7 N) N (loopAt Try.f7 2) A :=
  loopOk_of (A := ⟨⟨.normal, [5, 11, 14, 16], [.one .ref, .one .ref, .one (.int .i64), .one (.int .i64)], [], []⟩, [⟨(.exit 4), [11, 14], [.one .ref, .one (.int .i64)], [], []⟩], L7_2 N⟩) (by kernel_rfl) (fun _ => rfl) (fun _ _ => by kernel_rfl)
theorem l7_3 (N : Nat) : ∀ A, (e7 N).lp (lid (loopAt Try.f7 3)) = some A → LoopOk (e7 N) N (loopAt Try.f7 3) A :=
  loopOk_of (A := ⟨⟨.normal, [5, 11, 14, 16, 17, 18], [.one .ref, .one .ref, .one (.int .i64), .one (.int .i64), .one .bool, .one (.int .i64)], [], []⟩, [⟨(.exit 6), [5, 11, 14, 16, 17], [.one .ref, .one .ref, .one (.int .i64), .one (.int .i64), .one .bool], [], []⟩], L7_3 N⟩) (by kernel_rfl) (fun _ => rfl) (fun _ _ => by kernel_rfl)
theorem fine7 (N : Nat) : Fine (e7 N) N 7 Try.f7 ks7 rs7 (F7 N) :=
  ⟨Try.func7, by kernel_rfl, by kernel_rfl, by kernel_rfl, loops_of ⟨l7_0 N, ⟨l7_1 N, ⟨l7_2 N, ⟨l7_3 N, trivial⟩⟩⟩⟩, by kernel_rfl, by kernel_rfl, fun _ => by kernel_rfl⟩
theorem good7 (N : Nat) : Go.L.Good (e7 N) := good_of ⟨gd33 N, ⟨gd34 N, ⟨gd35, ⟨gd36 N, ⟨gd37, ⟨gd38 N, ⟨gd39 N, ⟨gd40 N, ⟨gd41 N, ⟨gd42 N, trivial⟩⟩⟩⟩⟩⟩⟩⟩⟩⟩
theorem gd7 (N : Nat) : CalOk Try.prog 7 (.full (mkFun ks7 rs7 (F7 N))) := mkFun_good (fine7 N) (good7 N)

/-! ### 45: carouselref20.Add -/
noncomputable def F45 (N : Nat) : List V × Int × Int × Int × Int × Int × Int × H → Option (List V × Int × H)
  | (a0, a1_0, a1_1, a1_2, a1_3, a1_4, a1_5, h) =>
    (if (a0).length = 35 then (
    (F37 100 (a1_0, a1_1, a1_2, a1_3, a1_4, a1_5, [])).bind fun (x1, _) =>
    (if (!x1) = true then (
    ((if 0 + 35 ≤ (a0).length then some (((a0).drop 0).take 35) else none) : Option (List V)).bind fun cs2 =>
    (if (cs2).length = 35 then (
    (if 0 + (cs2).length ≤ 35 then (
    ((if 0 + 35 ≤ ((splice ((.int .i64 0) :: .nils :: List.replicate 33 (.int .i64 0)) 0 cs2)).length then some ((((splice ((.int .i64 0) :: .nils :: List.replicate 33 (.int .i64 0)) 0 cs2)).drop 0).take 35) else none) : Option (List V)).bind fun cs3 =>
    some (cs3, 1, h)) else none)) else none))
    else (
    (a0[1]?).bind fun x4 =>
    (slen x4).bind fun n5 =>
    (L.asInt .i64 a0[0]?).bind fun x6 =>
    ((if (n5 == x6) = true then (
    some (1, a0, a1_0, a1_1, a1_2, a1_3, a1_4, a1_5, ((.int .i64 0) :: .nils :: List.replicate 33 (.int .i64 0)), h))
    else (
    some (0, a0, a1_0, a1_1, a1_2, a1_3, a1_4, a1_5, ((.int .i64 0) :: .nils :: List.replicate 33 (.int .i64 0)), h))) : Option (Int × List V × Int × Int × Int × Int × Int × Int × List V × H)).bind fun (x7, cs8, x9, x10, x11, x12, x13, x14, cs15, h16) =>
    (cs8[1]?).bind fun x17 =>
    (slen x17).bind fun n18 =>
    (ssl 6 x17 x7 n18).bind fun v19 =>
    (scells h16 v19 6).bind fun cs22 =>
    (happ h16 .nils 6 (snlen v19) cs22).bind fun (v20, h21) =>
    (happ h21 v20 6 1 [(.int .i64 x9), (.int .i64 x10), (.int .i64 x11), (.int .i64 x12), (.int .i64 x13), (.int .i64 x14)]).bind fun (v23, h24) =>
    (ck1 v23).bind fun _ =>
    (if 1 + 1 ≤ (cs8).length then (
    (if 0 ≤ x9 then (if x9 < 11 then (
    (L.asInt .i64 (splice cs8 1 [v23])[((2 + Int.toNat x9 * 1) + 0)]?).bind fun x25 =>
    (if 0 ≤ x9 then (if x9 < 11 then (
    (if (2 + Int.toNat x9 * 1) + 1 ≤ ((splice cs8 1 [v23])).length then (
    (if 0 ≤ x9 then (if x9 < 11 then (
    (L.asInt .i64 (splice (splice cs8 1 [v23]) (2 + Int.toNat x9 * 1) [(.int .i64 (IntKind.i64.wrap (x25 + 1)))])[((13 + Int.toNat x9 * 1) + 0)]?).bind fun x26 =>
    (if 0 ≤ x9 then (if x9 < 11 then (
    (if (13 + Int.toNat x9 * 1) + 1 ≤ ((splice (splice cs8 1 [v23]) (2 + Int.toNat x9 * 1) [(.int .i64 (IntKind.i64.wrap (x25 + 1)))])).length then (
    (if 0 ≤ x9 then (if x9 < 11 then (
    (L.asInt .i64 (splice (splice (splice cs8 1 [v23]) (2 + Int.toNat x9 * 1) [(.int .i64 (IntKind.i64.wrap (x25 + 1)))]) (13 + Int.toNat x9 * 1) [(.int .i64 (Int.tmod (IntKind.i64.wrap (x26 + x13)) 4611686018427387904))])[((24 + Int.toNat x9 * 1) + 0)]?).bind fun x27 =>
    (if 0 ≤ x9 then (if x9 < 11 then (
    (if (24 + Int.toNat x9 * 1) + 1 ≤ ((splice (splice (splice cs8 1 [v23]) (2 + Int.toNat x9 * 1) [(.int .i64 (IntKind.i64.wrap (x25 + 1)))]) (13 + Int.toNat x9 * 1) [(.int .i64 (Int.tmod (IntKind.i64.wrap (x26 + x13)) 4611686018427387904))])).length then (
    ((if 0 + 35 ≤ ((splice (splice (splice (splice cs8 1 [v23]) (2 + Int.toNat x9 * 1) [(.int .i64 (IntKind.i64.wrap (x25 + 1)))]) (13 + Int.toNat x9 * 1) [(.int .i64 (Int.tmod (IntKind.i64.wrap (x26 + x13)) 4611686018427387904))]) (24 + Int.toNat x9 * 1) [(.int .i64 (Int.tmod (IntKind.i64.wrap (x27 + x14)) 4611686018427387904))])).length then some ((((splice (splice (splice (splice cs8 1 [v23]) (2 + Int.toNat x9 * 1) [(.int .i64 (IntKind.i64.wrap (x25 + 1)))]) (13 + Int.toNat x9 * 1) [(.int .i64 (Int.tmod (IntKind.i64.wrap (x26 + x13)) 4611686018427387904))]) (24 + Int.toNat x9 * 1) [(.int .i64 (Int.tmod (IntKind.i64.wrap (x27 + x14)) 4611686018427387904))])).drop 0).take 35) else none) : Option (List V)).bind fun cs28 =>
    (if (cs28).length = 35 then (
    (if 0 + (cs28).length ≤ (cs15).length then (
    ((if 0 + 35 ≤ ((splice cs15 0 cs28)).length then some ((((splice cs15 0 cs28)).drop 0).take 35) else none) : Option (List V)).bind fun cs29 =>
    some (cs29, 0, h24)) else none)) else none)) else none)) else none) else none)) else none) else none)) else none)) else none) else none)) else none) else none)) else none)) else none) else none)) else none) else none)) else none)))) else none)
abbrev ks45 : List SK := [.blk, .agg [(.int .i64), (.int .i64), (.int .i64), (.int .i64), (.int .i64), (.int .i64)]]
abbrev rs45 : List SK := [.blk, .one (.int .i64)]
noncomputable def e45 (N : Nat) : Env := ⟨Try.prog, 66, inTab [2, 3, 4, 26], inTab [], natTab [(2, 2), (3, 3), (4, 4), (12, 2), (15, 2), (19, 2), (28, 2), (29, 3), (31, 3), (33, 2), (34, 2), (37, 2), (38, 2), (39, 3), (41, 3), (43, 2), (44, 2), (46, 3), (50, 2), (51, 2), (52, 3), (54, 3), (56, 2), (57, 2), (59, 3), (63, 2), (64, 2)], inTab [], calTab [(37, .pure (mkP ks37 rs37 (F37 100)))], altTab [(17, [⟨.normal, [2, 3, 4, 6], [.lp 2 0, .lp 3 0, .lp 4 0, .one (.int .i64)], [2, 3, 4], [.blk, .cells [(.int .i64), (.int .i64), (.int .i64), (.int .i64), (.int .i64), (.int .i64)], .blk]⟩])], loopTab []⟩
theorem fine45 (N : Nat) : Fine (e45 N) N 45 Try.f45 ks45 rs45 (F45 N) :=
  ⟨Try.func45, by kernel_rfl, by kernel_rfl, by kernel_rfl, loops_of trivial, by kernel_rfl, by kernel_rfl, fun _ => by kernel_rfl⟩
theorem good45 (N : Nat) : Go.L.Good (e45 N) := good_of ⟨gd37, trivial⟩
theorem gd45 (N : Nat) : CalOk Try.prog 45 (.full (mkFun ks45 rs45 (F45 N))) := mkFun_good (fine45 N) (good45 N)

/-! ### 46: log.Log).Copy -/
noncomputable def F46 (N : Nat) : V × H → Option (V × H)
  | (a0, h) =>
    (F65 N (a0, h)).bind fun (x1, _) =>
    (if (!x1) = true then (
    some (.nilp, h))
    else (
    (nck a0).bind fun _ =>
    (rdN h a0 36).bind fun cs2 =>
    (some (h ++ [O.cells 0 ((.int .i64 0) :: .nils :: List.replicate 34 (.int .i64 0))]) : Option H).bind fun h3 =>
    (if (cs2).length = 36 then (
    (wr h3 (.ptr (h).length 0 0) cs2).bind fun h4 =>
    (nck a0).bind fun _ =>
    ((rd h4 (padd a0 1) 0)).bind fun x5 =>
    (F67 N (x5, h4)).bind fun (x6, h7) =>
    (ck1 x6).bind fun _ =>
    (wr h7 (.ptr (h).length 0 1) [x6]).bind fun h8 =>
    some ((.ptr (h).length 0 0), h8)) else none)))
abbrev ks46 : List SK := [.one .ref]
abbrev rs46 : List SK := [.one .ref]
noncomputable def e46 (N : Nat) : Env := ⟨Try.prog, 16, inTab [], inTab [], natTab [], inTab [], calTab [(65, .ro (mkFun ks65 rs65 (F65 N))), (67, .full (mkFun ks67 rs67 (F67 N)))], altTab [], loopTab []⟩
theorem fine46 (N : Nat) : Fine (e46 N) N 46 Try.f46 ks46 rs46 (F46 N) :=
  ⟨Try.func46, by kernel_rfl, by kernel_rfl, by kernel_rfl, loops_of trivial, by kernel_rfl, by kernel_rfl, fun _ => by kernel_rfl⟩
theorem good46 (N : Nat) : Go.L.Good (e46 N) := good_of ⟨gd65 N, ⟨gd67 N, trivial⟩⟩
theorem gd46 (N : Nat) : CalOk Try.prog 46 (.full (mkFun ks46 rs46 (F46 N))) := mkFun_good (fine46 N) (good46 N)

/-! ### 70: carouselref20.All -/
noncomputable def L70_0 (N : Nat) : Nat → Int × Int × List V × H → Option (Int × H)
  | 0, _ => none
  | n + 1, (x6, x7, cs8, h9) =>
    (if (decide (x7 < 11)) = true then (
    (if 0 ≤ x7 then (if x7 < 11 then (
    (L.asInt .i64 cs8[((2 + Int.toNat x7 * 1) + 0)]?).bind fun x10 =>
    L70_0 N n ((IntKind.i64.wrap (x6 + x10)), (IntKind.i64.wrap (x7 + 1)), cs8, h9)) else none) else none))
    else (
    some (x6, h9)))
noncomputable def F70 (N : Nat) : List V × H → Option (Int × H)
  | (a0, h) =>
    (if (a0).length = 35 then (
    (L70_0 N N (0, 0, a0, h)).bind fun (x11, h12) =>
    some (x11, h12)) else none)
abbrev ks70 : List SK := [.blk]
abbrev rs70 : List SK := [.one (.int .i64)]
noncomputable def e70 (N : Nat) : Env := ⟨Try.prog, 16, inTab [1], inTab [], natTab [(1, 1), (11, 1), (12, 1)], inTab [], calTab [], altTab [], loopTab [(3, ⟨⟨.normal, [1, 3, 4], [.lp 1 0, .one (.int .i64), .one (.int .i64)], [1], [.blk]⟩, [⟨(.exit 0), [3], [.one (.int .i64)], [], []⟩], L70_0 N⟩)]⟩
theorem l70_0 (N : Nat) : ∀ A, (e70 N).lp (lid (loopAt Try.f70 0)) = some A → LoopOk (e70 N) N (loopAt Try.f70 0) A :=
  loopOk_of (A := ⟨⟨.normal, [1, 3, 4], [.lp 1 0, .one (.int .i64), .one (.int .i64)], [1], [.blk]⟩, [⟨(.exit 0), [3], [.one (.int .i64)], [], []⟩], L70_0 N⟩) (by kernel_rfl) (fun _ => rfl) (fun _ _ => by kernel_rfl)
theorem fine70 (N : Nat) : Fine (e70 N) N 70 Try.f70 ks70 rs70 (F70 N) :=
  ⟨Try.func70, by kernel_rfl, by kernel_rfl, by kernel_rfl, loops_of ⟨l70_0 N, trivial⟩, by kernel_rfl, by kernel_rfl, fun _ => by kernel_rfl⟩
theorem good70 (N : Nat) : Go.L.Good (e70 N) := good_of trivial
theorem gd70 (N : Nat) : CalOk Try.prog 70 (.ro (mkFun ks70 rs70 (F70 N))) := mkFun_ro (fine70 N) (good70 N) (by kernel_rfl)

/-! ### 47: carouselref20.Lost -/
noncomputable def F47 (N : Nat) : List V × H → Option (Int × H)
  | (a0, h) =>
    (if (a0).length = 35 then (
    ((if 0 + 35 ≤ (a0).length then some (((a0).drop 0).take 35) else none) : Option (List V)).bind fun cs1 =>
    (F70 N (cs1, h)).bind fun (x2, _) =>
    (a0[1]?).bind fun x3 =>
    (slen x3).bind fun n4 =>
    some ((IntKind.i64.wrap (x2 - n4)), h)) else none)
abbrev ks47 : List SK := [.blk]
abbrev rs47 : List SK := [.one (.int .i64)]
noncomputable def e47 (N : Nat) : Env := ⟨Try.prog, 9, inTab [1], inTab [], natTab [(1, 1), (5, 1)], inTab [], calTab [(70, .ro (mkFun ks70 rs70 (F70 N)))], altTab [], loopTab []⟩
theorem fine47 (N : Nat) : Fine (e47 N) N 47 Try.f47 ks47 rs47 (F47 N) :=
  ⟨Try.func47, by kernel_rfl, by kernel_rfl, by kernel_rfl, loops_of trivial, by kernel_rfl, by kernel_rfl, fun _ => by kernel_rfl⟩
theorem good47 (N : Nat) : Go.L.Good (e47 N) := good_of ⟨gd70 N, trivial⟩
theorem gd47 (N : Nat) : CalOk Try.prog 47 (.ro (mkFun ks47 rs47 (F47 N))) := mkFun_ro (fine47 N) (good47 N) (by kernel_rfl)

/-! ### 48: carouselref20.Count -/
noncomputable def F48 (N : Nat) : List V × Int × H → Option (Int × H)
  | (a0, a1, h) =>
    (if (a0).length = 35 then (
    (if (decide (a1 < 0)) = true then (
    some (true, h))
    else (
    some ((decide (a1 ≥ 11)), h))).bind fun (b1, h2) =>
    (if b1 = true then (
    some (0, h2))
    else (
    (if 0 ≤ a1 then (if a1 < 11 then (
    (L.asInt .i64 a0[((2 + Int.toNat a1 * 1) + 0)]?).bind fun x3 =>
    some (x3, h2)) else none) else none)))) else none)
abbrev ks48 : List SK := [.blk, .one (.int .i64)]
abbrev rs48 : List SK := [.one (.int .i64)]
noncomputable def e48 (N : Nat) : Env := ⟨Try.prog, 15, inTab [2], inTab [], natTab [(2, 2), (12, 2), (13, 2)], inTab [], calTab [], altTab [], loopTab []⟩
theorem fine48 (N : Nat) : Fine (e48 N) N 48 Try.f48 ks48 rs48 (F48 N) :=
  ⟨Try.func48, by kernel_rfl, by kernel_rfl, by kernel_rfl, loops_of trivial, by kernel_rfl, by kernel_rfl, fun _ => by kernel_rfl⟩
theorem good48 (N : Nat) : Go.L.Good (e48 N) := good_of trivial
theorem gd48 (N : Nat) : CalOk Try.prog 48 (.ro (mkFun ks48 rs48 (F48 N))) := mkFun_ro (fine48 N) (good48 N) (by kernel_rfl)

/-! ### 49: carousellaw20.spoil -/
noncomputable def L49_0 (N : Nat) : Nat → V × Int × H → Option (V × H)
  | 0, _ => none
  | n + 1, (x7, x8, h9) =>
    (slen x7).bind fun n10 =>
    (if (decide (x8 < n10)) = true then (
    (sidx x7 x8 6).bind fun q11 =>
    (wr h9 q11 ((.int .i64 (-5)) :: List.replicate 5 (.int .i64 0))).bind fun h12 =>
    L49_0 N n (x7, (IntKind.i64.wrap (x8 + 1)), h12))
    else (
    some (x7, h9)))
noncomputable def L49_1 (N : Nat) : Nat → V × Int × H → Option (H)
  | 0, _ => none
  | n + 1, (x20, x21, h22) =>
    (if (decide (x21 < 20)) = true then (
    (happ h22 x20 6 1 ((.int .i64 (-6)) :: List.replicate 5 (.int .i64 0))).bind fun (v23, h24) =>
    L49_1 N n (v23, (IntKind.i64.wrap (x21 + 1)), h24))
    else (
    some h22))
noncomputable def F49 (N : Nat) : V × H → Option (H)
  | (a0, h) =>
    (L49_0 N N (a0, 0, h)).bind fun (x13, h14) =>
    (L49_1 N N (x13, 0, h14)).bind fun h25 =>
    some h25
abbrev ks49 : List SK := [.one .ref]
abbrev rs49 : List SK := []
noncomputable def e49 (N : Nat) : Env := ⟨Try.prog, 22, inTab [20], inTab [], natTab [], inTab [], calTab [], altTab [], loopTab [(1, ⟨⟨.normal, [0, 2], [.one .ref, .one (.int .i64)], [], []⟩, [⟨(.exit 0), [0], [.one .ref], [], []⟩], L49_0 N⟩), (5, ⟨⟨.normal, [0, 3], [.one .ref, .one (.int .i64)], [], []⟩, [⟨(.exit 2), [], [], [], []⟩], L49_1 N⟩)]⟩
theorem l49_0 (N : Nat) : ∀ A, (e49 N).lp (lid (loopAt Try.f49 0)) = some A → LoopOk (e49 N) N (loopAt Try.f49 0) A :=
  loopOk_of (A := ⟨⟨.normal, [0, 2], [.one .ref, .one (.int .i64)], [], []⟩, [⟨(.exit 0), [0], [.one .ref], [], []⟩], L49_0 N⟩) (by kernel_rfl) (fun _ => rfl) (fun _ _ => by kernel_rfl)
theorem l49_1 (N : Nat) : ∀ A, (e49 N).lp (lid (loopAt Try.f49 1)) = some A → LoopOk (e49 N) N (loopAt Try.f49 1) A :=
  loopOk_of (A := ⟨⟨.normal, [0, 3], [.one .ref, .one (.int .i64)], [], []⟩, [⟨(.exit 2), [], [], [], []⟩], L49_1 N⟩) (by kernel_rfl) (fun _ => rfl) (fun _ _ => by kernel_rfl)
theorem fine49 (N : Nat) : Fine (e49 N) N 49 Try.f49 ks49 rs49 (F49 N) :=
  ⟨Try.func49, by kernel_rfl, by kernel_rfl, by kernel_rfl, loops_of ⟨l49_0 N, ⟨l49_1 N, trivial⟩⟩, by kernel_rfl, by kernel_rfl, fun _ => by kernel_rfl⟩
theorem good49 (N : Nat) : Go.L.Good (e49 N) := good_of trivial
theorem gd49 (N : Nat) : CalOk Try.prog 49 (.full (mkFun ks49 rs49 (F49 N))) := mkFun_good (fine49 N) (good49 N)

/-! ### 51: carouselref20.Of -/
noncomputable def L51_0 (N : Nat) : Nat → V × Int × List V × Int × Int × H → Option (V × H)
  | 0, _ => none
  | n + 1, (x29, x30, cs31, x32, x33, h34) =>
    (cs31[1]?).bind fun x35 =>
    (slen x35).bind fun n36 =>
    (if (decide (x30 < n36)) = true then (
    (cs31[1]?).bind fun x37 =>
    (sidx x37 x30 6).bind fun q38 =>
    (L.asInt .i64 (rd h34 (padd q38 2) 0)).bind fun x39 =>
    (L.asInt .i64 (rd h34 (padd q38 2) 1)).bind fun x40 =>
    ((if ((x39 == x32) && ((x40 == x33) && true)) = true then (
    (cs31[1]?).bind fun x41 =>
    (sidx x41 x30 6).bind fun q42 =>
    (L.asInt .i64 (rd h34 q42 0)).bind fun x43 =>
    (L.asInt .i64 (rd h34 q42 1)).bind fun x44 =>
    (L.asInt .i64 (rd h34 q42 2)).bind fun x45 =>
    (L.asInt .i64 (rd h34 q42 3)).bind fun x46 =>
    (L.asInt .i64 (rd h34 q42 4)).bind fun x47 =>
    (L.asInt .i64 (rd h34 q42 5)).bind fun x48 =>
    (happ h34 x29 6 1 [(.int .i64 x43), (.int .i64 x44), (.int .i64 x45), (.int .i64 x46), (.int .i64 x47), (.int .i64 x48)]).bind fun (v49, h50) =>
    some (v49, x30, cs31, x32, x33, h50))
    else (
    some (x29, x30, cs31, x32, x33, h34))) : Option (V × Int × List V × Int × Int × H)).bind fun (x51, x52, cs53, x54, x55, h56) =>
    L51_0 N n (x51, (IntKind.i64.wrap (x52 + 1)), cs53, x54, x55, h56))
    else (
    some (x29, h34)))
noncomputable def F51 (N : Nat) : List V × Int × Int × H → Option (V × H)
  | (a0, a1_0, a1_1, h) =>
    (if (a0).length = 35 then (
    (L51_0 N N (.nils, 0, a0, a1_0, a1_1, h)).bind fun (x57, h58) =>
    some (x57, h58)) else none)
abbrev ks51 : List SK := [.blk, .agg [(.int .i64), (.int .i64)]]
abbrev rs51 : List SK := [.one .ref]
noncomputable def e51 (N : Nat) : Env := ⟨Try.prog, 31, inTab [2, 3, 28], inTab [], natTab [(2, 2), (3, 3), (8, 2), (14, 2), (23, 2)], inTab [], calTab [], altTab [(21, [⟨.normal, [2, 3, 5, 6], [.lp 2 0, .lp 3 0, .one .ref, .one (.int .i64)], [2, 3], [.blk, .cells [(.int .i64), (.int .i64)]]⟩])], loopTab [(3, ⟨⟨.normal, [2, 3, 5, 6], [.lp 2 0, .lp 3 0, .one .ref, .one (.int .i64)], [2, 3], [.blk, .cells [(.int .i64), (.int .i64)]]⟩, [⟨(.exit 0), [5], [.one .ref], [], []⟩], L51_0 N⟩)]⟩
theorem l51_0 (N : Nat) : ∀ A, (e51 N).lp (lid (loopAt Try.f51 0)) = some A → LoopOk (e51 N) N (loopAt Try.f51 0) A :=
  loopOk_of (A := ⟨⟨.normal, [2, 3, 5, 6], [.lp 2 0, .lp 3 0, .one .ref, .one (.int .i64)], [2, 3], [.blk, .cells [(.int .i64), (.int .i64)]]⟩, [⟨(.exit 0), [5], [.one .ref], [], []⟩], L51_0 N⟩) (by kernel_rfl) (fun _ => rfl) (fun _ _ => by kernel_rfl)
theorem fine51 (N : Nat) : Fine (e51 N) N 51 Try.f51 ks51 rs51 (F51 N) :=
  ⟨Try.func51, by kernel_rfl, by kernel_rfl, by kernel_rfl, loops_of ⟨l51_0 N, trivial⟩, by kernel_rfl, by kernel_rfl, fun _ => by kernel_rfl⟩
theorem good51 (N : Nat) : Go.L.Good (e51 N) := good_of trivial
theorem gd51 (N : Nat) : CalOk Try.prog 51 (.full (mkFun ks51 rs51 (F51 N))) := mkFun_good (fine51 N) (good51 N)

/-! ### 9: carousellaw20.LogPlays -/
noncomputable def L9_0 (N : Nat) : Nat → V × Int × V × Int × Int × Int × List V × H → Option ((Int × V × Int × Int × List V × H) ⊕ (Bool × H))
  | 0, _ => none
  | n + 1, (x97, x98, x99, x100, x101, x102, cs103, h104) =>
    (slen x97).bind fun n105 =>
    (if (decide (x100 < n105)) = true then (
    (sidx x97 x100 6).bind fun q106 =>
    (L.asInt .i64 (rd h104 q106 0)).bind fun x107 =>
    (L.asInt .i64 (rd h104 q106 1)).bind fun x108 =>
    (L.asInt .i64 (rd h104 q106 2)).bind fun x109 =>
    (L.asInt .i64 (rd h104 q106 3)).bind fun x110 =>
    (L.asInt .i64 (rd h104 q106 4)).bind fun x111 =>
    (L.asInt .i64 (rd h104 q106 5)).bind fun x112 =>
    (F36 N (x99, x107, x108, x109, x110, x111, x112, h104)).bind fun (x113, h114) =>
    ((if 0 + 35 ≤ (cs103).length then some (((cs103).drop 0).take 35) else none) : Option (List V)).bind fun cs115 =>
    (sidx x97 x100 6).bind fun q116 =>
    (L.asInt .i64 (rd h114 q116 0)).bind fun x117 =>
    (L.asInt .i64 (rd h114 q116 1)).bind fun x118 =>
    (L.asInt .i64 (rd h114 q116 2)).bind fun x119 =>
    (L.asInt .i64 (rd h114 q116 3)).bind fun x120 =>
    (L.asInt .i64 (rd h114 q116 4)).bind fun x121 =>
    (L.asInt .i64 (rd h114 q116 5)).bind fun x122 =>
    (F45 N (cs115, x117, x118, x119, x120, x121, x122, h114)).bind fun (cs123, x124, h125) =>
    (L.asAgg 35 (some (.agg cs123))).bind fun cs126 =>
    (if (cs126).length = 35 then (
    (if 0 + (cs126).length ≤ 35 then (
    ((if 0 + 35 ≤ ((splice ((.int .i64 0) :: .nils :: List.replicate 33 (.int .i64 0)) 0 cs126)).length then some ((((splice ((.int .i64 0) :: .nils :: List.replicate 33 (.int .i64 0)) 0 cs126)).drop 0).take 35) else none) : Option (List V)).bind fun cs127 =>
    (if (cs127).length = 35 then (
    (if 0 + (cs127).length ≤ (cs103).length then (
    (if (x113 != x124) = true then (
    some (.inr (false, h125)))
    else (
    ((if ((Int.tmod x100 7) == 3) = true then (
    (F46 N (x99, h125)).bind fun (x128, h129) =>
    (isNil x128).bind fun b130 =>
    (if b130 = true then (
    some (true, h129))
    else (
    (F38 N (x128, h129)).bind fun (x133, h134) =>
    ((splice cs103 0 cs127)[1]?).bind fun x135 =>
    (F41 N (x133, x135, h134)).bind fun (x136, _) =>
    some ((!x136), h134))).bind fun (b131, h132) =>
    (if b131 = true then (
    some (true, h132))
    else (
    (F40 N (x128, h132)).bind fun (x139, _) =>
    ((if 0 + 35 ≤ ((splice cs103 0 cs127)).length then some ((((splice cs103 0 cs127)).drop 0).take 35) else none) : Option (List V)).bind fun cs140 =>
    (F47 N (cs140, h132)).bind fun (x141, _) =>
    some ((x139 != x141), h132))).bind fun (b137, h138) =>
    (if b137 = true then (
    some (true, h138))
    else (
    (F39 N (x128, x98, h138)).bind fun (x144, _) =>
    ((if 0 + 35 ≤ ((splice cs103 0 cs127)).length then some ((((splice cs103 0 cs127)).drop 0).take 35) else none) : Option (List V)).bind fun cs145 =>
    (F48 N (cs145, x98, h138)).bind fun (x146, _) =>
    some ((x144 != x146), h138))).bind fun (b142, h143) =>
    (if b142 = true then (
    some (.inr (false, h143)))
    else (
    (sidx x97 x100 6).bind fun q147 =>
    (L.asInt .i64 (rd h143 q147 0)).bind fun x148 =>
    (L.asInt .i64 (rd h143 q147 1)).bind fun x149 =>
    (L.asInt .i64 (rd h143 q147 2)).bind fun x150 =>
    (L.asInt .i64 (rd h143 q147 3)).bind fun x151 =>
    (L.asInt .i64 (rd h143 q147 4)).bind fun x152 =>
    (L.asInt .i64 (rd h143 q147 5)).bind fun x153 =>
    (F36 N (x128, x148, x149, x150, x151, x152, x153, h143)).bind fun (x154, h155) =>
    (sidx x97 0 6).bind fun q156 =>
    (L.asInt .i64 (rd h155 q156 0)).bind fun x157 =>
    (L.asInt .i64 (rd h155 q156 1)).bind fun x158 =>
    (L.asInt .i64 (rd h155 q156 2)).bind fun x159 =>
    (L.asInt .i64 (rd h155 q156 3)).bind fun x160 =>
    (L.asInt .i64 (rd h155 q156 4)).bind fun x161 =>
    (L.asInt .i64 (rd h155 q156 5)).bind fun x162 =>
    (F36 N (x128, x157, x158, x159, x160, x161, x162, h155)).bind fun (x163, h164) =>
    (F38 N (x99, h164)).bind fun (x165, h166) =>
    (F49 N (x165, h166)).bind fun h167 =>
    (F42 N (x99, x101, x102, h167)).bind fun (x168, h169) =>
    (F49 N (x168, h169)).bind fun h170 =>
    some (.inl (x97, x98, x99, x100, x101, x102, (splice cs103 0 cs127), h170)))))
    else (
    some (.inl (x97, x98, x99, x100, x101, x102, (splice cs103 0 cs127), h125)))) : Option ((V × Int × V × Int × Int × Int × List V × H) ⊕ (Bool × H))).bind fun o171 => match o171 with
    | .inl (x172, x173, x174, x175, x176, x177, cs178, h179) => (
    L9_0 N n (x172, x173, x174, (IntKind.i64.wrap (x175 + 1)), x176, x177, cs178, h179))
    | .inr (x180, h181) => (
    some (.inr (x180, h181)))))) else none)) else none)) else none)) else none))
    else (
    some (.inl (x98, x99, x101, x102, cs103, h104))))
noncomputable def L9_1 (N : Nat) : Nat → Int × V × Int × Int × Int × List V × H → Option ((Int × V × Int × Int × List V × H) ⊕ (Bool × H))
  | 0, _ => none
  | n + 1, (x219, x220, x221, x222, x223, cs224, h225) =>
    (if (decide (x221 < 12)) = true then (
    (F50 N (x220, x221, h225)).bind fun (x226, x227, _) =>
    (F39 N (x220, x221, h225)).bind fun (x228, _) =>
    ((if 0 + 35 ≤ (cs224).length then some (((cs224).drop 0).take 35) else none) : Option (List V)).bind fun cs229 =>
    (F48 N (cs229, x221, h225)).bind fun (x230, _) =>
    (if (x228 != x230) = true then (
    some (true, h225))
    else (
    (if (decide (x221 ≥ 0)) = true then (
    some ((decide (x221 < 11)), h225))
    else (
    some (false, h225))).bind fun (b233, h234) =>
    (if b233 = true then (
    (if 0 ≤ x221 then (if x221 < 11 then (
    (L.asInt .i64 cs224[((13 + Int.toNat x221 * 1) + 0)]?).bind fun x237 =>
    (if (x226 != x237) = true then (
    some (true, h234))
    else (
    (if 0 ≤ x221 then (if x221 < 11 then (
    (L.asInt .i64 cs224[((24 + Int.toNat x221 * 1) + 0)]?).bind fun x240 =>
    some ((x227 != x240), h234)) else none) else none))).bind fun (b238, h239) =>
    some (b238, h239)) else none) else none))
    else (
    some (false, h234))).bind fun (b235, h236) =>
    some (b235, h236))).bind fun (b231, h232) =>
    (if b231 = true then (
    some (true, h232))
    else (
    (if (decide (x221 < 0)) = true then (
    some (true, h232))
    else (
    some ((decide (x221 > 10)), h232))).bind fun (b243, h244) =>
    (if b243 = true then (
    (if (x226 != 0) = true then (
    some (true, h244))
    else (
    some ((x227 != 0), h244))).bind fun (b247, h248) =>
    some (b247, h248))
    else (
    some (false, h244))).bind fun (b245, h246) =>
    some (b245, h246))).bind fun (b241, h242) =>
    (if b241 = true then (
    some (.inr (false, h242)))
    else (
    L9_1 N n (x219, x220, (IntKind.i64.wrap (x221 + 1)), x222, x223, cs224, h242))))
    else (
    some (.inl (x219, x220, x222, x223, cs224, h225))))
noncomputable def F9 (N : Nat) : Int × V × Int × Int × Int × H → Option (Bool × H)
  | (a0, a1, a2_0, a2_1, a3, h) =>
    (F33 N (a0, h)).bind fun (x1, x2, h3) =>
    (F34 N (a0, h3)).bind fun (cs4, x5, _) =>
    (L.asAgg 35 (some (.agg cs4))).bind fun cs6 =>
    (if (cs6).length = 35 then (
    (if 0 + (cs6).length ≤ 35 then (
    (if (x2 != x5) = true then (
    some (true, h3))
    else (
    (isNil x1).bind fun b9 =>
    some ((!((!b9) == (x5 == 0))), h3))).bind fun (b7, h8) =>
    (if b7 = true then (
    some (false, h8))
    else (
    (isNil x1).bind fun b10 =>
    (if b10 = true then (
    (F35 100 []).bind fun (x11, _) =>
    some (x11, h8))
    else (
    (L9_0 N N (a1, a3, x1, 0, a2_0, a2_1, (splice ((.int .i64 0) :: .nils :: List.replicate 33 (.int .i64 0)) 0 cs6), h8)).bind fun o182 => match o182 with
    | .inl (x183, x184, x185, x186, cs187, h188) => (
    (L9_1 N N (x183, x184, (-1), x185, x186, cs187, h188)).bind fun o249 => match o249 with
    | .inl (x250, x251, x252, x253, cs254, h255) => (
    (F50 N (x251, x250, h255)).bind fun (x256, x257, _) =>
    (if (decide (x250 < 1)) = true then (
    some (true, h255))
    else (
    some ((decide (x250 > 10)), h255))).bind fun (b258, h259) =>
    (if b258 = true then (
    (F39 N (x251, x250, h259)).bind fun (x260, _) =>
    (if (x260 == 0) = true then (
    some ((x256 == 0), h259))
    else (
    some (false, h259))).bind fun (b261, h262) =>
    (if b261 = true then (
    some ((x257 == 0), h262))
    else (
    some (false, h262))).bind fun (b263, h264) =>
    (if b263 = true then (
    (F38 N (x251, h264)).bind fun (x267, h268) =>
    (cs254[1]?).bind fun x269 =>
    (F41 N (x267, x269, h268)).bind fun (x270, _) =>
    some (x270, h268))
    else (
    some (false, h264))).bind fun (b265, h266) =>
    (if b265 = true then (
    (F35 100 []).bind fun (x273, _) =>
    some (x273, h266))
    else (
    some (false, h266))).bind fun (b271, h272) =>
    some (b271, h272))
    else (
    (F38 N (x251, h259)).bind fun (x274, h275) =>
    (cs254[1]?).bind fun x276 =>
    (F41 N (x274, x276, h275)).bind fun (x277, _) =>
    (if x277 = true then (
    (F42 N (x251, x252, x253, h275)).bind fun (x280, h281) =>
    ((if 0 + 35 ≤ (cs254).length then some (((cs254).drop 0).take 35) else none) : Option (List V)).bind fun cs282 =>
    (F51 N (cs282, x252, x253, h281)).bind fun (x283, h284) =>
    (F41 N (x280, x283, h284)).bind fun (x285, _) =>
    some (x285, h284))
    else (
    some (false, h275))).bind fun (b278, h279) =>
    (if b278 = true then (
    (F40 N (x251, h279)).bind fun (x288, _) =>
    ((if 0 + 35 ≤ (cs254).length then some (((cs254).drop 0).take 35) else none) : Option (List V)).bind fun cs289 =>
    (F47 N (cs289, h279)).bind fun (x290, _) =>
    some ((x288 == x290), h279))
    else (
    some (false, h279))).bind fun (b286, h287) =>
    (if b286 = true then (
    (F35 100 []).bind fun (x293, _) =>
    some (x293, h287))
    else (
    some (false, h287))).bind fun (b291, h292) =>
    some (b291, h292))))
    | .inr (x294, h295) => (
    some (x294, h295)))
    | .inr (x296, h297) => (
    some (x296, h297))))))) else none)) else none)
abbrev ks9 : List SK := [.one (.int .i64), .one .ref, .agg [(.int .i64), (.int .i64)], .one (.int .i64)]
abbrev rs9 : List SK := [.one .bool]
noncomputable def e9 (N : Nat) : Env := ⟨Try.prog, 235, inTab [6, 11, 15], inTab [], natTab [(6, 6), (11, 11), (15, 15), (81, 11), (147, 11), (148, 11), (154, 11), (155, 11), (204, 11), (213, 11)], inTab [], calTab [(33, .full (mkFun ks33 rs33 (F33 N))), (34, .ro (mkFun ks34 rs34 (F34 N))), (35, .pure (mkP ks35 rs35 (F35 100))), (36, .full (mkFun ks36 rs36 (F36 N))), (45, .full (mkFun ks45 rs45 (F45 N))), (46, .full (mkFun ks46 rs46 (F46 N))), (38, .full (mkFun ks38 rs38 (F38 N))), (41, .ro (mkFun ks41 rs41 (F41 N))), (40, .ro (mkFun ks40 rs40 (F40 N))), (47, .ro (mkFun ks47 rs47 (F47 N))), (39, .ro (mkFun ks39 rs39 (F39 N))), (48, .ro (mkFun ks48 rs48 (F48 N))), (49, .full (mkFun ks49 rs49 (F49 N))), (42, .full (mkFun ks42 rs42 (F42 N))), (50, .ro (mkFun ks50 rs50 (F50 N))), (51, .full (mkFun ks51 rs51 (F51 N)))], altTab [(73, [⟨.normal, [1, 3, 6, 9, 11, 13], [.one .ref, .one (.int .i64), .lp 6 0, .one .ref, .lp 11 0, .one (.int .i64)], [6, 11], [.cells [(.int .i64), (.int .i64)], .blk]⟩, ⟨.ret, [8], [.one .bool], [], []⟩])], loopTab [(8, ⟨⟨.normal, [1, 3, 6, 9, 11, 13], [.one .ref, .one (.int .i64), .lp 6 0, .one .ref, .lp 11 0, .one (.int .i64)], [6, 11], [.cells [(.int .i64), (.int .i64)], .blk]⟩, [⟨(.exit 0), [3, 6, 9, 11], [.one (.int .i64), .lp 6 0, .one .ref, .lp 11 0], [6, 11], [.cells [(.int .i64), (.int .i64)], .blk]⟩, ⟨.ret, [8], [.one .bool], [], []⟩], L9_0 N⟩), (24, ⟨⟨.normal, [3, 6, 9, 11, 18], [.one (.int .i64), .lp 6 0, .one .ref, .lp 11 0, .one (.int .i64)], [6, 11], [.cells [(.int .i64), (.int .i64)], .blk]⟩, [⟨(.exit 2), [3, 6, 9, 11], [.one (.int .i64), .lp 6 0, .one .ref, .lp 11 0], [6, 11], [.cells [(.int .i64), (.int .i64)], .blk]⟩, ⟨.ret, [8], [.one .bool], [], []⟩], L9_1 N⟩)]⟩
theorem l9_0 (N : Nat) : ∀ A, (e9 N).lp (lid (loopAt Try.f9 0)) = some A → LoopOk (e9 N) N (loopAt Try.f9 0) A :=
  loopOk_of (A := ⟨⟨.normal, [1, 3, 6, 9, 11, 13], [.one .ref, .one (.int .i64), .lp 6 0, .one .ref, .lp 11 0, .one (.int .i64)], [6, 11], [.cells [(.int .i64), (.int .i64)], .blk]⟩, [⟨(.exit 0), [3, 6, 9, 11], [.one (.int .i64), .lp 6 0, .one .ref, .lp 11 0], [6, 11], [.cells [(.int .i64), (.int .i64)], .blk]⟩, ⟨.ret, [8], [.one .bool], [], []⟩], L9_0 N⟩) (by kernel_rfl) (fun _ => rfl) (fun _ _ => by kernel_rfl)
theorem l9_1 (N : Nat) : ∀ A, (e9 N).lp (lid (loopAt Try.f9 1)) = some A → LoopOk (e9 N) N (loopAt Try.f9 1) A :=
  loopOk_of (A := ⟨⟨.normal, [3, 6, 9, 11, 18], [.one (.int .i64), .lp 6 0, .one .ref, .lp 11 0, .one (.int .i64)], [6, 11], [.cells [(.int .i64), (.int .i64)], .blk]⟩, [⟨(.exit 2), [3, 6, 9, 11], [.one (.int .i64), .lp 6 0, .one .ref, .lp 11 0], [6, 11], [.cells [(.int .i64), (.int .i64)], .blk]⟩, ⟨.ret, [8], [.one .bool], [], []⟩], L9_1 N⟩) (by kernel_rfl) (fun _ => rfl) (fun _ _ => by kernel_rfl)
theorem fine9 (N : Nat) : Fine (e9 N) N 9 Try.f9 ks9 rs9 (F9 N) :=
  ⟨Try.func9, by kernel_rfl, by kernel_rfl, by kernel_rfl, loops_of ⟨l9_0 N, ⟨l9_1 N, trivial⟩⟩, by kernel_rfl, by kernel_rfl, fun _ => by kernel_rfl⟩
theorem good9 (N : Nat) : Go.L.Good (e9 N) := good_of ⟨gd33 N, ⟨gd34 N, ⟨gd35, ⟨gd36 N, ⟨gd45 N, ⟨gd46 N, ⟨gd38 N, ⟨gd41 N, ⟨gd40 N, ⟨gd47 N, ⟨gd39 N, ⟨gd48 N, ⟨gd49 N, ⟨gd42 N, ⟨gd50 N, ⟨gd51 N, trivial⟩⟩⟩⟩⟩⟩⟩⟩⟩⟩⟩⟩⟩⟩⟩⟩
theorem gd9 (N : Nat) : CalOk Try.prog 9 (.full (mkFun ks9 rs9 (F9 N))) := mkFun_good (fine9 N) (good9 N)

/-! ### 10: carousellaw20.LogNil -/
noncomputable def L10_0 (N : Nat) : Nat → V × Int × Int × Int × Int × Int × Int × Int × H → Option ((H) ⊕ (Bool × H))
  | 0, _ => none
  | n + 1, (x56, x57, x58, x59, x60, x61, x62, x63, h64) =>
    (slen x56).bind fun n65 =>
    (if (decide (x57 < n65)) = true then (
    (sidx x56 x57 1).bind fun q66 =>
    ((rd h64 q66 0)).bind fun x67 =>
    (F50 N (x67, 1, h64)).bind fun (x68, x69, _) =>
    (sidx x56 x57 1).bind fun q70 =>
    ((rd h64 q70 0)).bind fun x71 =>
    (F36 N (x71, x58, x59, x60, x61, x62, x63, h64)).bind fun (x72, h73) =>
    (if (x72 != 1) = true then (
    some (true, h73))
    else (
    (sidx x56 x57 1).bind fun q76 =>
    ((rd h73 q76 0)).bind fun x77 =>
    (F38 N (x77, h73)).bind fun (x78, h79) =>
    (slen x78).bind fun n80 =>
    some ((n80 != 0), h79))).bind fun (b74, h75) =>
    (if b74 = true then (
    some (true, h75))
    else (
    (sidx x56 x57 1).bind fun q83 =>
    ((rd h75 q83 0)).bind fun x84 =>
    (F39 N (x84, 1, h75)).bind fun (x85, _) =>
    some ((x85 != 0), h75))).bind fun (b81, h82) =>
    (if b81 = true then (
    some (true, h82))
    else (
    some ((x68 != 0), h82))).bind fun (b86, h87) =>
    (if b86 = true then (
    some (true, h87))
    else (
    some ((x69 != 0), h87))).bind fun (b88, h89) =>
    (if b88 = true then (
    some (true, h89))
    else (
    (sidx x56 x57 1).bind fun q92 =>
    ((rd h89 q92 0)).bind fun x93 =>
    (F40 N (x93, h89)).bind fun (x94, _) =>
    some ((x94 != 0), h89))).bind fun (b90, h91) =>
    (if b90 = true then (
    some (true, h91))
    else (
    (sidx x56 x57 1).bind fun q97 =>
    ((rd h91 q97 0)).bind fun x98 =>
    (F42 N (x98, x60, x61, h91)).bind fun (x99, h100) =>
    (slen x99).bind fun n101 =>
    some ((n101 != 0), h100))).bind fun (b95, h96) =>
    (if b95 = true then (
    some (true, h96))
    else (
    (sidx x56 x57 1).bind fun q104 =>
    ((rd h96 q104 0)).bind fun x105 =>
    (F46 N (x105, h96)).bind fun (x106, h107) =>
    (isNil x106).bind fun b108 =>
    some ((!b108), h107))).bind fun (b102, h103) =>
    (if b102 = true then (
    some (.inr (false, h103)))
    else (
    L10_0 N n (x56, (IntKind.i64.wrap (x57 + 1)), x58, x59, x60, x61, x62, x63, h103))))
    else (
    some (.inl h64)))
noncomputable def F10 (N : Nat) : Int × Int × Int × Int × Int × Int × H → Option (Bool × H)
  | (a0_0, a0_1, a0_2, a0_3, a0_4, a0_5, h) =>
    (some (h ++ [O.cells 0 ((.int .i64 0) :: .nils :: List.replicate 34 (.int .i64 0))]) : Option H).bind fun h1 =>
    (some (h1 ++ [O.cells 0 [.nilp, (.ptr (h).length 0 0)]]) : Option H).bind fun h2 =>
    (L10_0 N N ((.sl (h1).length 0 0 2 1 (some 2)), 0, a0_0, a0_1, a0_2, a0_3, a0_4, a0_5, h2)).bind fun o109 => match o109 with
    | .inl h110 => (
    (F35 100 []).bind fun (x111, _) =>
    some (x111, h110))
    | .inr (x112, h113) => (
    some (x112, h113))
abbrev ks10 : List SK := [.agg [(.int .i64), (.int .i64), (.int .i64), (.int .i64), (.int .i64), (.int .i64)]]
abbrev rs10 : List SK := [.one .bool]
noncomputable def e10 (N : Nat) : Env := ⟨Try.prog, 84, inTab [1], inTab [], natTab [(1, 1), (69, 1)], inTab [], calTab [(50, .ro (mkFun ks50 rs50 (F50 N))), (36, .full (mkFun ks36 rs36 (F36 N))), (38, .full (mkFun ks38 rs38 (F38 N))), (39, .ro (mkFun ks39 rs39 (F39 N))), (40, .ro (mkFun ks40 rs40 (F40 N))), (42, .full (mkFun ks42 rs42 (F42 N))), (46, .full (mkFun ks46 rs46 (F46 N))), (35, .pure (mkP ks35 rs35 (F35 100)))], altTab [], loopTab [(3, ⟨⟨.normal, [1, 3, 4], [.lp 1 0, .one .ref, .one (.int .i64)], [1], [.cells [(.int .i64), (.int .i64), (.int .i64), (.int .i64), (.int .i64), (.int .i64)]]⟩, [⟨(.exit 0), [], [], [], []⟩, ⟨.ret, [2], [.one .bool], [], []⟩], L10_0 N⟩)]⟩
theorem l10_0 (N : Nat) : ∀ A, (e10 N).lp (lid (loopAt Try.f10 0)) = some A → LoopOk (e10 N) N (loopAt Try.f10 0) A :=
  loopOk_of (A := ⟨⟨.normal, [1, 3, 4], [.lp 1 0, .one .ref, .one (.int .i64)], [1], [.cells [(.int .i64), (.int .i64), (.int .i64), (.int .i64), (.int .i64), (.int .i64)]]⟩, [⟨(.exit 0), [], [], [], []⟩, ⟨.ret, [2], [.one .bool], [], []⟩], L10_0 N⟩) (by kernel_rfl) (fun _ => rfl) (fun _ _ => by kernel_rfl)
theorem fine10 (N : Nat) : Fine (e10 N) N 10 Try.f10 ks10 rs10 (F10 N) :=
  ⟨Try.func10, by kernel_rfl, by kernel_rfl, by kernel_rfl, loops_of ⟨l10_0 N, trivial⟩, by kernel_rfl, by kernel_rfl, fun _ => by kernel_rfl⟩
theorem good10 (N : Nat) : Go.L.Good (e10 N) := good_of ⟨gd50 N, ⟨gd36 N, ⟨gd38 N, ⟨gd39 N, ⟨gd40 N, ⟨gd42 N, ⟨gd46 N, ⟨gd35, trivial⟩⟩⟩⟩⟩⟩⟩⟩
theorem gd10 (N : Nat) : CalOk Try.prog 10 (.full (mkFun ks10 rs10 (F10 N))) := mkFun_good (fine10 N) (good10 N)

end Go.Proofs.Ytbpibiapjangmaa
