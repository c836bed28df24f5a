/- The functions that the laws reach, as plain ones (printed by gen.py). -/
import Derived.Test.YtbpibiapjangmaaL32
import Derived.Test.YtbpibiapjangmaaChecked
import Derived.KernelRfl
set_option linter.unusedVariables false
namespace Go.Proofs.Ytbpibiapjangmaa
open Go.L

/-! ### 16: homes.New -/
noncomputable def F16 (N : Nat) : Int × H → Option (V × Int × H)
  | (a0, h) =>
    (if (decide (a0 < 1)) = true then (
    some (true, h))
    else (
    some ((decide (a0 > 16)), h))).bind fun (b1, h2) =>
    (if b1 = true then (
    some (.nilp, 1, h2))
    else (
    (some (h2 ++ [O.cells 0 ((.int .i64 a0) :: List.replicate 48 (.int .i64 0))]) : Option H).bind fun h3 =>
    some ((.ptr (h2).length 0 0), 0, h3)))
abbrev ks16 : List SK := [.one (.int .i64)]
abbrev rs16 : List SK := [.one .ref, .one (.int .i64)]
noncomputable def e16 (N : Nat) : Env := ⟨Try.prog, 13, inTab [], inTab [], natTab [], pureTab [], tcOf [], noTcv, altTab [], loopTab []⟩
theorem fine16 (N : Nat) : Fine (e16 N) N 16 Try.f16 ks16 rs16 (F16 N) :=
  ⟨Try.func16, by kernel_rfl, by kernel_rfl, by kernel_rfl, by kernel_rfl, loops_of trivial, by kernel_rfl, by kernel_rfl, fun _ => by kernel_rfl⟩
theorem good16 (N : Nat) : Go.L.Good (e16 N) := good_of trivial trivial
theorem gd16 (N : Nat) : GoodF Try.prog (16, mkFun ks16 rs16 (F16 N)) := mkFun_good (fine16 N) (good16 N)

/-! ### 17: carouselref17.New -/
noncomputable def F17 (N : Nat) : Int × H → Option (V × Int × H)
  | (a0, h) =>
    (if (decide (a0 < 1)) = true then (
    some (true, h))
    else (
    some ((decide (a0 > 16)), h))).bind fun (b1, h2) =>
    (if b1 = true then (
    some (.nils, 1, h2))
    else (
    (if 0 ≤ a0 then (if a0 ≤ a0 then (if a0 * ((3 : Nat) : Int) ≤ ((mostCells : Nat) : Int) then (
    (some (h2 ++ [O.cells 0 (repeatC (Int.toNat a0) [(.int .i64 0), (.int .i64 0), (.int .i64 0)])]) : Option H).bind fun h3 =>
    (ck1 (.sl (h2).length 0 0 (Int.toNat a0) 3 (some (Int.toNat a0)))).bind fun _ =>
    some ((.sl (h2).length 0 0 (Int.toNat a0) 3 (some (Int.toNat a0))), 0, h3)) else none) else none) else none)))
abbrev ks17 : List SK := [.one (.int .i64)]
abbrev rs17 : List SK := [.agg [.ref], .one (.int .i64)]
noncomputable def e17 (N : Nat) : Env := ⟨Try.prog, 14, inTab [2], inTab [], natTab [(2, 2)], pureTab [], tcOf [], noTcv, altTab [], loopTab []⟩
theorem fine17 (N : Nat) : Fine (e17 N) N 17 Try.f17 ks17 rs17 (F17 N) :=
  ⟨Try.func17, by kernel_rfl, by kernel_rfl, by kernel_rfl, by kernel_rfl, loops_of trivial, by kernel_rfl, by kernel_rfl, fun _ => by kernel_rfl⟩
theorem good17 (N : Nat) : Go.L.Good (e17 N) := good_of trivial trivial
theorem gd17 (N : Nat) : GoodF Try.prog (17, mkFun ks17 rs17 (F17 N)) := mkFun_good (fine17 N) (good17 N)

/-! ### 61: homes.Accounts).has -/
noncomputable def F61 (N : Nat) : V × Int × Int × H → Option (Bool × H)
  | (a0, a1, a2, h) =>
    (isNil a0).bind fun b1 =>
    (if (!b1) = true then (
    some ((decide (a1 ≥ 0)), h))
    else (
    some (false, h))).bind fun (b2, h3) =>
    (if b2 = true then (
    (nck a0).bind fun _ =>
    (L.asInt .i64 (rd h3 (padd a0 0) 0)).bind fun x6 =>
    some ((decide (a1 < x6)), h3))
    else (
    some (false, h3))).bind fun (b4, h5) =>
    (if b4 = true then (
    some ((decide (a2 ≥ 0)), h5))
    else (
    some (false, h5))).bind fun (b7, h8) =>
    (if b7 = true then (
    some ((decide (a2 < 3)), h8))
    else (
    some (false, h8))).bind fun (b9, h10) =>
    some (b9, h10)
abbrev ks61 : List SK := [.one .ref, .one (.int .i64), .one (.int .i64)]
abbrev rs61 : List SK := [.one .bool]
noncomputable def e61 (N : Nat) : Env := ⟨Try.prog, 29, inTab [], inTab [], natTab [], pureTab [], tcOf [], noTcv, altTab [], loopTab []⟩
theorem fine61 (N : Nat) : Fine (e61 N) N 61 Try.f61 ks61 rs61 (F61 N) :=
  ⟨Try.func61, by kernel_rfl, by kernel_rfl, by kernel_rfl, by kernel_rfl, loops_of trivial, by kernel_rfl, by kernel_rfl, fun _ => by kernel_rfl⟩
theorem good61 (N : Nat) : Go.L.Good (e61 N) := good_of trivial trivial
theorem gd61 (N : Nat) : GoodF Try.prog (61, mkFun ks61 rs61 (F61 N)) := mkFun_good (fine61 N) (good61 N)

/-! ### 18: homes.Accounts).Take -/
noncomputable def F18 (N : Nat) : V × Int × Int × H → Option (Int × H)
  | (a0, a1, a2, h) =>
    (F61 N (a0, a1, a2, h)).bind fun (x1, h2) =>
    (if (!x1) = true then (
    some (1, h2))
    else (
    (nck a0).bind fun _ =>
    (aidx (padd a0 1) a1 16 3).bind fun q3 =>
    (aidx q3 a2 3 1).bind fun q4 =>
    (L.asInt .i64 (rd h2 q4 0)).bind fun x5 =>
    (if (decide (x5 ≥ 64)) = true then (
    some (170, h2))
    else (
    (nck a0).bind fun _ =>
    (aidx (padd a0 1) a1 16 3).bind fun q6 =>
    (aidx q6 a2 3 1).bind fun q7 =>
    (L.asInt .i64 (rd h2 q7 0)).bind fun x8 =>
    (nck a0).bind fun _ =>
    (aidx (padd a0 1) a1 16 3).bind fun q9 =>
    (aidx q9 a2 3 1).bind fun q10 =>
    (wr h2 q10 [(.int .i64 (IntKind.i64.wrap (x8 + 1)))]).bind fun h11 =>
    some (0, h11)))))
abbrev ks18 : List SK := [.one .ref, .one (.int .i64), .one (.int .i64)]
abbrev rs18 : List SK := [.one (.int .i64)]
noncomputable def e18 (N : Nat) : Env := ⟨Try.prog, 34, inTab [], inTab [], natTab [], pureTab [], tcOf [(61, mkFun ks61 rs61 (F61 N))], noTcv, altTab [], loopTab []⟩
theorem fine18 (N : Nat) : Fine (e18 N) N 18 Try.f18 ks18 rs18 (F18 N) :=
  ⟨Try.func18, by kernel_rfl, by kernel_rfl, by kernel_rfl, by kernel_rfl, loops_of trivial, by kernel_rfl, by kernel_rfl, fun _ => by kernel_rfl⟩
theorem good18 (N : Nat) : Go.L.Good (e18 N) := good_of trivial ⟨gd61 N, trivial⟩
theorem gd18 (N : Nat) : GoodF Try.prog (18, mkFun ks18 rs18 (F18 N)) := mkFun_good (fine18 N) (good18 N)

/-! ### 13: homes.Mod -/
noncomputable def F13 (N : Nat) : Int × Int × H → Option (Int × Int × H)
  | (a0, a1, h) =>
    (if (decide (a1 < 1)) = true then (
    some (0, 1, h))
    else (
    (if a1 = 0 then none else (
    ((if (decide ((Int.tmod a0 a1) < 0)) = true then (
    some ((IntKind.i64.wrap ((Int.tmod a0 a1) + a1)), h))
    else (
    some ((Int.tmod a0 a1), h))) : Option (Int × H)).bind fun (x1, h2) =>
    some (x1, 0, h2)))))
abbrev ks13 : List SK := [.one (.int .i64), .one (.int .i64)]
abbrev rs13 : List SK := [.one (.int .i64), .one (.int .i64)]
noncomputable def e13 (N : Nat) : Env := ⟨Try.prog, 18, inTab [], inTab [], natTab [], pureTab [], tcOf [], noTcv, altTab [(13, [⟨.normal, [6], [.one (.int .i64)], [], []⟩])], loopTab []⟩
theorem fine13 (N : Nat) : Fine (e13 N) N 13 Try.f13 ks13 rs13 (F13 N) :=
  ⟨Try.func13, by kernel_rfl, by kernel_rfl, by kernel_rfl, by kernel_rfl, loops_of trivial, by kernel_rfl, by kernel_rfl, fun _ => by kernel_rfl⟩
theorem good13 (N : Nat) : Go.L.Good (e13 N) := good_of trivial trivial
theorem gd13 : GoodP Try.prog (13, mkP ks13 rs13 (F13 100)) := mkP_good (fine13 100) (good13 100) (by kernel_rfl) (by kernel_rfl)

/-! ### 20: homes.Accounts).Move -/
noncomputable def F20 (N : Nat) : V × Int × Int × Int × Int × H → Option (Int × H)
  | (a0, a1, a2, a3, a4, h) =>
    (F61 N (a0, a1, a3, h)).bind fun (x1, h2) =>
    (if (!x1) = true then (
    some (true, h2))
    else (
    (F61 N (a0, a2, a3, h2)).bind fun (x5, h6) =>
    some ((!x5), h6))).bind fun (b3, h4) =>
    (if b3 = true then (
    some (true, h4))
    else (
    some ((decide (a4 < 0)), h4))).bind fun (b7, h8) =>
    (if b7 = true then (
    some (1, h8))
    else (
    (nck a0).bind fun _ =>
    (aidx (padd a0 1) a1 16 3).bind fun q9 =>
    (aidx q9 a3 3 1).bind fun q10 =>
    (L.asInt .i64 (rd h8 q10 0)).bind fun x11 =>
    (if (decide (x11 < a4)) = true then (
    some (3, h8))
    else (
    (if (a1 == a2) = true then (
    some (0, h8))
    else (
    (nck a0).bind fun _ =>
    (aidx (padd a0 1) a2 16 3).bind fun q12 =>
    (aidx q12 a3 3 1).bind fun q13 =>
    (L.asInt .i64 (rd h8 q13 0)).bind fun x14 =>
    (if (decide (a4 > (IntKind.i64.wrap (64 - x14)))) = true then (
    some (170, h8))
    else (
    (nck a0).bind fun _ =>
    (aidx (padd a0 1) a1 16 3).bind fun q15 =>
    (aidx q15 a3 3 1).bind fun q16 =>
    (L.asInt .i64 (rd h8 q16 0)).bind fun x17 =>
    (nck a0).bind fun _ =>
    (aidx (padd a0 1) a1 16 3).bind fun q18 =>
    (aidx q18 a3 3 1).bind fun q19 =>
    (wr h8 q19 [(.int .i64 (IntKind.i64.wrap (x17 - a4)))]).bind fun h20 =>
    (nck a0).bind fun _ =>
    (aidx (padd a0 1) a2 16 3).bind fun q21 =>
    (aidx q21 a3 3 1).bind fun q22 =>
    (L.asInt .i64 (rd h20 q22 0)).bind fun x23 =>
    (nck a0).bind fun _ =>
    (aidx (padd a0 1) a2 16 3).bind fun q24 =>
    (aidx q24 a3 3 1).bind fun q25 =>
    (wr h20 q25 [(.int .i64 (IntKind.i64.wrap (x23 + a4)))]).bind fun h26 =>
    some (0, h26)))))))))
abbrev ks20 : List SK := [.one .ref, .one (.int .i64), .one (.int .i64), .one (.int .i64), .one (.int .i64)]
abbrev rs20 : List SK := [.one (.int .i64)]
noncomputable def e20 (N : Nat) : Env := ⟨Try.prog, 79, inTab [], inTab [], natTab [], pureTab [], tcOf [(61, mkFun ks61 rs61 (F61 N))], noTcv, altTab [], loopTab []⟩
theorem fine20 (N : Nat) : Fine (e20 N) N 20 Try.f20 ks20 rs20 (F20 N) :=
  ⟨Try.func20, by kernel_rfl, by kernel_rfl, by kernel_rfl, by kernel_rfl, loops_of trivial, by kernel_rfl, by kernel_rfl, fun _ => by kernel_rfl⟩
theorem good20 (N : Nat) : Go.L.Good (e20 N) := good_of trivial ⟨gd61 N, trivial⟩
theorem gd20 (N : Nat) : GoodF Try.prog (20, mkFun ks20 rs20 (F20 N)) := mkFun_good (fine20 N) (good20 N)

/-! ### 21: homes.Accounts).Count -/
noncomputable def F21 (N : Nat) : V × Int × Int × H → Option (Int × H)
  | (a0, a1, a2, h) =>
    (F61 N (a0, a1, a2, h)).bind fun (x1, h2) =>
    (if (!x1) = true then (
    some (0, h2))
    else (
    (nck a0).bind fun _ =>
    (aidx (padd a0 1) a1 16 3).bind fun q3 =>
    (aidx q3 a2 3 1).bind fun q4 =>
    (L.asInt .i64 (rd h2 q4 0)).bind fun x5 =>
    some (x5, h2)))
abbrev ks21 : List SK := [.one .ref, .one (.int .i64), .one (.int .i64)]
abbrev rs21 : List SK := [.one (.int .i64)]
noncomputable def e21 (N : Nat) : Env := ⟨Try.prog, 20, inTab [], inTab [], natTab [], pureTab [], tcOf [(61, mkFun ks61 rs61 (F61 N))], noTcv, altTab [], loopTab []⟩
theorem fine21 (N : Nat) : Fine (e21 N) N 21 Try.f21 ks21 rs21 (F21 N) :=
  ⟨Try.func21, by kernel_rfl, by kernel_rfl, by kernel_rfl, by kernel_rfl, loops_of trivial, by kernel_rfl, by kernel_rfl, fun _ => by kernel_rfl⟩
theorem good21 (N : Nat) : Go.L.Good (e21 N) := good_of trivial ⟨gd61 N, trivial⟩
theorem gd21 (N : Nat) : GoodF Try.prog (21, mkFun ks21 rs21 (F21 N)) := mkFun_good (fine21 N) (good21 N)

/-! ### 15: carousellaw17.awake -/
noncomputable def L15_0 (N : Nat) : Nat → V × Int × H → Option ((V × H) ⊕ (Bool × H))
  | 0, _ => none
  | n + 1, (x12, x13, h14) =>
    (if (decide (x13 < 64)) = true then (
    (F18 N (x12, 0, 0, h14)).bind fun (x15, h16) =>
    (if (x15 != 0) = true then (
    some (.inr (false, h16)))
    else (
    L15_0 N n (x12, (IntKind.i64.wrap (x13 + 1)), h16))))
    else (
    some (.inl (x12, h14))))
noncomputable def F15 (N : Nat) : H → Option (Bool × H)
  | h =>
    (F16 N (2, h)).bind fun (x1, x2, h3) =>
    (if (x2 != 0) = true then (
    some (true, h3))
    else (
    (isNil x1).bind fun b6 =>
    some (b6, h3))).bind fun (b4, h5) =>
    (if b4 = true then (
    some (false, h5))
    else (
    (L15_0 N N (x1, 0, h5)).bind fun o17 => match o17 with
    | .inl (x18, h19) => (
    (F13 100 ((-1), 3, [])).bind fun (x20, x21, _) =>
    (F18 N (x18, 0, 0, h19)).bind fun (x22, h23) =>
    (if (x22 == 170) = true then (
    (F20 N (x18, 0, 1, 0, 64, h23)).bind fun (x26, h27) =>
    some ((x26 == 0), h27))
    else (
    some (false, h23))).bind fun (b24, h25) =>
    (if b24 = true then (
    (F21 N (x18, 1, 0, h25)).bind fun (x30, h31) =>
    some ((x30 == 64), h31))
    else (
    some (false, h25))).bind fun (b28, h29) =>
    (if b28 = true then (
    some ((x20 == 2), h29))
    else (
    some (false, h29))).bind fun (b32, h33) =>
    (if b32 = true then (
    some ((x21 == 0), h33))
    else (
    some (false, h33))).bind fun (b34, h35) =>
    some (b34, h35))
    | .inr (x36, h37) => (
    some (x36, h37))))
abbrev ks15 : List SK := []
abbrev rs15 : List SK := [.one .bool]
noncomputable def e15 (N : Nat) : Env := ⟨Try.prog, 48, inTab [], inTab [], natTab [], pureTab [(13, mkP ks13 rs13 (F13 100))], tcOf [(16, mkFun ks16 rs16 (F16 N)), (18, mkFun ks18 rs18 (F18 N)), (20, mkFun ks20 rs20 (F20 N)), (21, mkFun ks21 rs21 (F21 N))], noTcv, altTab [], loopTab [(5, ⟨⟨.normal, [1, 3], [.one .ref, .one (.int .i64)], [], []⟩, [⟨(.exit 0), [1], [.one .ref], [], []⟩, ⟨.ret, [0], [.one .bool], [], []⟩], L15_0 N⟩)]⟩
theorem l15_0 (N : Nat) : ∀ A, (e15 N).lp (lid (loopAt Try.f15 0)) = some A → LoopOk (e15 N) N (loopAt Try.f15 0) A :=
  loopOk_of (A := ⟨⟨.normal, [1, 3], [.one .ref, .one (.int .i64)], [], []⟩, [⟨(.exit 0), [1], [.one .ref], [], []⟩, ⟨.ret, [0], [.one .bool], [], []⟩], L15_0 N⟩) (by kernel_rfl) (fun _ => rfl) (fun _ _ => by kernel_rfl)
theorem fine15 (N : Nat) : Fine (e15 N) N 15 Try.f15 ks15 rs15 (F15 N) :=
  ⟨Try.func15, by kernel_rfl, by kernel_rfl, by kernel_rfl, by kernel_rfl, loops_of ⟨l15_0 N, trivial⟩, by kernel_rfl, by kernel_rfl, fun _ => by kernel_rfl⟩
theorem good15 (N : Nat) : Go.L.Good (e15 N) := good_of ⟨gd13, trivial⟩ ⟨gd16 N, ⟨gd18 N, ⟨gd20 N, ⟨gd21 N, trivial⟩⟩⟩⟩
theorem gd15 : GoodP Try.prog (15, mkP ks15 rs15 (F15 100)) := mkP_good (fine15 100) (good15 100) (by kernel_rfl) (by kernel_rfl)

/-! ### 19: homes.Accounts).Give -/
noncomputable def F19 (N : Nat) : V × Int × Int × H → Option (Int × H)
  | (a0, a1, a2, h) =>
    (F61 N (a0, a1, a2, h)).bind fun (x1, h2) =>
    (if (!x1) = true then (
    some (1, h2))
    else (
    (nck a0).bind fun _ =>
    (aidx (padd a0 1) a1 16 3).bind fun q3 =>
    (aidx q3 a2 3 1).bind fun q4 =>
    (L.asInt .i64 (rd h2 q4 0)).bind fun x5 =>
    (if (x5 == 0) = true then (
    some (3, h2))
    else (
    (nck a0).bind fun _ =>
    (aidx (padd a0 1) a1 16 3).bind fun q6 =>
    (aidx q6 a2 3 1).bind fun q7 =>
    (L.asInt .i64 (rd h2 q7 0)).bind fun x8 =>
    (nck a0).bind fun _ =>
    (aidx (padd a0 1) a1 16 3).bind fun q9 =>
    (aidx q9 a2 3 1).bind fun q10 =>
    (wr h2 q10 [(.int .i64 (IntKind.i64.wrap (x8 - 1)))]).bind fun h11 =>
    some (0, h11)))))
abbrev ks19 : List SK := [.one .ref, .one (.int .i64), .one (.int .i64)]
abbrev rs19 : List SK := [.one (.int .i64)]
noncomputable def e19 (N : Nat) : Env := ⟨Try.prog, 34, inTab [], inTab [], natTab [], pureTab [], tcOf [(61, mkFun ks61 rs61 (F61 N))], noTcv, altTab [], loopTab []⟩
theorem fine19 (N : Nat) : Fine (e19 N) N 19 Try.f19 ks19 rs19 (F19 N) :=
  ⟨Try.func19, by kernel_rfl, by kernel_rfl, by kernel_rfl, by kernel_rfl, loops_of trivial, by kernel_rfl, by kernel_rfl, fun _ => by kernel_rfl⟩
theorem good19 (N : Nat) : Go.L.Good (e19 N) := good_of trivial ⟨gd61 N, trivial⟩
theorem gd19 (N : Nat) : GoodF Try.prog (19, mkFun ks19 rs19 (F19 N)) := mkFun_good (fine19 N) (good19 N)

/-! ### 22: homes.Accounts).Room -/
noncomputable def L22_0 (N : Nat) : Nat → V × Int × Int × List V × List V × H → Option (List V × List V × H)
  | 0, _ => none
  | n + 1, (x15, x16, x17, cs18, cs19, h20) =>
    (if (decide (x17 < 3)) = true then (
    (nck x15).bind fun _ =>
    (aidx (padd x15 1) x16 16 3).bind fun q21 =>
    (aidx q21 x17 3 1).bind fun q22 =>
    (L.asInt .i64 (rd h20 q22 0)).bind fun x23 =>
    (if 0 ≤ x17 then (if x17 < 3 then (
    (if (0 + Int.toNat x17 * 1) + 1 ≤ (cs19).length then (
    L22_0 N n (x15, x16, (IntKind.i64.wrap (x17 + 1)), cs18, (splice cs19 (0 + Int.toNat x17 * 1) [(.int .i64 (IntKind.i64.wrap (64 - x23)))]), h20)) else none)) else none) else none))
    else (
    some (cs18, cs19, h20)))
noncomputable def F22 (N : Nat) : V × Int × H → Option (List V × H)
  | (a0, a1, h) =>
    (F61 N (a0, a1, 0, h)).bind fun (x1, h2) =>
    (if (!x1) = true then (
    some ([(.int .i64 0), (.int .i64 0), (.int .i64 0)], h2))
    else (
    (nck a0).bind fun _ =>
    (aidx (padd a0 1) a1 16 3).bind fun q3 =>
    (rdN h2 q3 3).bind fun cs4 =>
    (aggEq Try.prog 90 cs4 [(.int .i64 0), (.int .i64 0), (.int .i64 0)]).bind fun b5 =>
    (if b5 = true then (
    some ([(.int .i64 64), (.int .i64 64), (.int .i64 64)], h2))
    else (
    (L22_0 N N (a0, a1, 0, [(.int .i64 0), (.int .i64 0), (.int .i64 0)], [(.int .i64 0), (.int .i64 0), (.int .i64 0)], h2)).bind fun (cs24, cs25, h26) =>
    ((if 0 + 3 ≤ (cs25).length then some (((cs25).drop 0).take 3) else none) : Option (List V)).bind fun cs27 =>
    (if (cs27).length = 3 then (
    (if 0 + (cs27).length ≤ (cs24).length then (
    ((if 0 + 3 ≤ ((splice cs24 0 cs27)).length then some ((((splice cs24 0 cs27)).drop 0).take 3) else none) : Option (List V)).bind fun cs28 =>
    some (cs28, h26)) else none)) else none)))))
abbrev ks22 : List SK := [.one .ref, .one (.int .i64)]
abbrev rs22 : List SK := [.blk]
noncomputable def e22 (N : Nat) : Env := ⟨Try.prog, 37, inTab [4, 5], inTab [], natTab [(4, 4), (5, 5), (34, 5)], pureTab [], tcOf [(61, mkFun ks61 rs61 (F61 N))], noTcv, altTab [], loopTab [(7, ⟨⟨.normal, [0, 1, 4, 5, 21], [.one .ref, .one (.int .i64), .lp 4 0, .lp 5 0, .one (.int .i64)], [4, 5], [.blk, .blk]⟩, [⟨(.exit 0), [4, 5], [.lp 4 0, .lp 5 0], [4, 5], [.blk, .blk]⟩], L22_0 N⟩)]⟩
theorem l22_0 (N : Nat) : ∀ A, (e22 N).lp (lid (loopAt Try.f22 0)) = some A → LoopOk (e22 N) N (loopAt Try.f22 0) A :=
  loopOk_of (A := ⟨⟨.normal, [0, 1, 4, 5, 21], [.one .ref, .one (.int .i64), .lp 4 0, .lp 5 0, .one (.int .i64)], [4, 5], [.blk, .blk]⟩, [⟨(.exit 0), [4, 5], [.lp 4 0, .lp 5 0], [4, 5], [.blk, .blk]⟩], L22_0 N⟩) (by kernel_rfl) (fun _ => rfl) (fun _ _ => by kernel_rfl)
theorem fine22 (N : Nat) : Fine (e22 N) N 22 Try.f22 ks22 rs22 (F22 N) :=
  ⟨Try.func22, by kernel_rfl, by kernel_rfl, by kernel_rfl, by kernel_rfl, loops_of ⟨l22_0 N, trivial⟩, by kernel_rfl, by kernel_rfl, fun _ => by kernel_rfl⟩
theorem good22 (N : Nat) : Go.L.Good (e22 N) := good_of trivial ⟨gd61 N, trivial⟩
theorem gd22 (N : Nat) : GoodF Try.prog (22, mkFun ks22 rs22 (F22 N)) := mkFun_good (fine22 N) (good22 N)

/-! ### 4: carousellaw17.HomeKeeps -/
noncomputable def L4_0 (N : Nat) : Nat → Int × V × V × Int × List V × H → Option ((Int × V × List V × H) ⊕ (Bool × H))
  | 0, _ => none
  | n + 1, (x47, x48, x49, x50, cs51, h52) =>
    (slen x48).bind fun n53 =>
    (if (decide (x50 < n53)) = true then (
    (sidx x48 x50 5).bind fun q54 =>
    (L.asInt .i64 (rd h52 q54 0)).bind fun x55 =>
    (L.asInt .i64 (rd h52 q54 1)).bind fun x56 =>
    (L.asInt .i64 (rd h52 q54 2)).bind fun x57 =>
    (L.asInt .i64 (rd h52 q54 3)).bind fun x58 =>
    (L.asInt .i64 (rd h52 q54 4)).bind fun x59 =>
    ((if (x55 == 1) = true then (
    (F18 N (x49, x56, x57, h52)).bind fun (x60, h61) =>
    (if (x60 == 0) = true then (
    (if (decide (x57 < 0)) = true then (
    some (true, h61))
    else (
    some ((decide (x57 ≥ 3)), h61))).bind fun (b62, h63) =>
    (if b62 = true then (
    some (.inr (false, h63)))
    else (
    (if 0 ≤ x57 then (if x57 < 3 then (
    (L.asInt .i64 cs51[((0 + Int.toNat x57 * 1) + 0)]?).bind fun x64 =>
    (if 0 ≤ x57 then (if x57 < 3 then (
    (if (0 + Int.toNat x57 * 1) + 1 ≤ (cs51).length then (
    some (.inl (x47, x48, x49, x50, (splice cs51 (0 + Int.toNat x57 * 1) [(.int .i64 (IntKind.i64.wrap (x64 + 1)))]), h63))) else none)) else none) else none)) else none) else none))))
    else (
    some (.inl (x47, x48, x49, x50, cs51, h61)))))
    else (
    (if (x55 == 2) = true then (
    (F19 N (x49, x56, x57, h52)).bind fun (x65, h66) =>
    (if (x65 == 0) = true then (
    (if (decide (x57 < 0)) = true then (
    some (true, h66))
    else (
    some ((decide (x57 ≥ 3)), h66))).bind fun (b67, h68) =>
    (if b67 = true then (
    some (.inr (false, h68)))
    else (
    (if 0 ≤ x57 then (if x57 < 3 then (
    (L.asInt .i64 cs51[((0 + Int.toNat x57 * 1) + 0)]?).bind fun x69 =>
    (if 0 ≤ x57 then (if x57 < 3 then (
    (if (0 + Int.toNat x57 * 1) + 1 ≤ (cs51).length then (
    some (.inl (x47, x48, x49, x50, (splice cs51 (0 + Int.toNat x57 * 1) [(.int .i64 (IntKind.i64.wrap (x69 - 1)))]), h68))) else none)) else none) else none)) else none) else none))))
    else (
    some (.inl (x47, x48, x49, x50, cs51, h66)))))
    else (
    (if (x55 == 3) = true then (
    (F20 N (x49, x56, x58, x57, x59, h52)).bind fun (x70, h71) =>
    some (.inl (x47, x48, x49, x50, cs51, h71)))
    else (
    some (.inl (x47, x48, x49, x50, cs51, h52)))))))) : Option ((Int × V × V × Int × List V × H) ⊕ (Bool × H))).bind fun o72 => match o72 with
    | .inl (x73, x74, x75, x76, cs77, h78) => (
    L4_0 N n (x73, x74, x75, (IntKind.i64.wrap (x76 + 1)), cs77, h78))
    | .inr (x79, h80) => (
    some (.inr (x79, h80))))
    else (
    some (.inl (x47, x49, cs51, h52))))
noncomputable def L4_2 (N : Nat) : Nat → Int × V × Int × Int × Int × List V × H → Option ((Int × V × Int × Int × List V × H) ⊕ (Bool × H))
  | 0, _ => none
  | n + 1, (x108, x109, x110, x111, x112, cs113, h114) =>
    (if (decide (x112 < x108)) = true then (
    (F21 N (x109, x112, x110, h114)).bind fun (x115, h116) =>
    (if (decide (x115 < 0)) = true then (
    some (true, h116))
    else (
    some ((decide (x115 > 64)), h116))).bind fun (b117, h118) =>
    (if b117 = true then (
    some (true, h118))
    else (
    (F22 N (x109, x112, h118)).bind fun (cs121, h122) =>
    (L.asAgg 3 (some (.agg cs121))).bind fun cs123 =>
    (if 0 ≤ x110 then (if x110 < 3 then (
    (L.asInt .i64 (cs123)[Int.toNat x110 * 1]?).bind fun x124 =>
    some ((x124 != (IntKind.i64.wrap (64 - x115))), h122)) else none) else none))).bind fun (b119, h120) =>
    (if b119 = true then (
    some (.inr (false, h120)))
    else (
    L4_2 N n (x108, x109, x110, (IntKind.i64.wrap (x111 + x115)), (IntKind.i64.wrap (x112 + 1)), cs113, h120))))
    else (
    some (.inl (x108, x109, x110, x111, cs113, h114))))
noncomputable def L4_1 (N : Nat) : Nat → Int × V × Int × List V × H → Option ((H) ⊕ (Bool × H))
  | 0, _ => none
  | n + 1, (x135, x136, x137, cs138, h139) =>
    (if (decide (x137 < 3)) = true then (
    (L4_2 N N (x135, x136, x137, 0, 0, cs138, h139)).bind fun o140 => match o140 with
    | .inl (x141, x142, x143, x144, cs145, h146) => (
    (if 0 ≤ x143 then (if x143 < 3 then (
    (L.asInt .i64 cs145[((0 + Int.toNat x143 * 1) + 0)]?).bind fun x147 =>
    (if (x144 != x147) = true then (
    some (.inr (false, h146)))
    else (
    L4_1 N n (x141, x142, (IntKind.i64.wrap (x143 + 1)), cs145, h146)))) else none) else none))
    | .inr (x148, h149) => (
    some (.inr (x148, h149))))
    else (
    some (.inl h139)))
noncomputable def F4 (N : Nat) : Int × V × H → Option (Bool × H)
  | (a0, a1, h) =>
    (F16 N (a0, h)).bind fun (x1, x2, h3) =>
    (if (x2 != 0) = true then (
    some (true, h3))
    else (
    (isNil x1).bind fun b6 =>
    some (b6, h3))).bind fun (b4, h5) =>
    (if b4 = true then (
    (F17 N (a0, h5)).bind fun (x7, x8, h9) =>
    (if (x2 == x8) = true then (
    (F15 100 []).bind fun (x12, _) =>
    some (x12, h9))
    else (
    some (false, h9))).bind fun (b10, h11) =>
    some (b10, h11))
    else (
    (L4_0 N N (a0, a1, x1, 0, [(.int .i64 0), (.int .i64 0), (.int .i64 0)], h5)).bind fun o81 => match o81 with
    | .inl (x82, x83, cs84, h85) => (
    (L4_1 N N (x82, x83, 0, cs84, h85)).bind fun o150 => match o150 with
    | .inl h151 => (
    (F15 100 []).bind fun (x152, _) =>
    some (x152, h151))
    | .inr (x153, h154) => (
    some (x153, h154)))
    | .inr (x155, h156) => (
    some (x155, h156))))
abbrev ks4 : List SK := [.one (.int .i64), .one .ref]
abbrev rs4 : List SK := [.one .bool]
noncomputable def e4 (N : Nat) : Env := ⟨Try.prog, 146, inTab [7, 9, 11], inTab [], natTab [(7, 7), (9, 9), (11, 11), (48, 11), (53, 11), (55, 11), (59, 11), (63, 11), (67, 11), (69, 9), (72, 9), (76, 11), (78, 11), (82, 11), (86, 11), (90, 11), (92, 9), (95, 9), (99, 11), (101, 11), (103, 11), (105, 11), (142, 9)], pureTab [(15, mkP ks15 rs15 (F15 100))], tcOf [(16, mkFun ks16 rs16 (F16 N)), (17, mkFun ks17 rs17 (F17 N)), (18, mkFun ks18 rs18 (F18 N)), (19, mkFun ks19 rs19 (F19 N)), (20, mkFun ks20 rs20 (F20 N)), (21, mkFun ks21 rs21 (F21 N)), (22, mkFun ks22 rs22 (F22 N))], noTcv, altTab [(50, [⟨.normal, [0, 1, 5, 9, 10], [.one (.int .i64), .one .ref, .one .ref, .lp 9 0, .one (.int .i64)], [9], [.blk]⟩, ⟨.ret, [4], [.one .bool], [], []⟩])], loopTab [(7, ⟨⟨.normal, [0, 1, 5, 9, 10], [.one (.int .i64), .one .ref, .one .ref, .lp 9 0, .one (.int .i64)], [9], [.blk]⟩, [⟨(.exit 0), [0, 5, 9], [.one (.int .i64), .one .ref, .lp 9 0], [9], [.blk]⟩, ⟨.ret, [4], [.one .bool], [], []⟩], L4_0 N⟩), (24, ⟨⟨.normal, [0, 5, 9, 12], [.one (.int .i64), .one .ref, .lp 9 0, .one (.int .i64)], [9], [.blk]⟩, [⟨(.exit 3), [], [], [], []⟩, ⟨.ret, [4], [.one .bool], [], []⟩], L4_1 N⟩), (28, ⟨⟨.normal, [0, 5, 9, 12, 13, 14], [.one (.int .i64), .one .ref, .lp 9 0, .one (.int .i64), .one (.int .i64), .one (.int .i64)], [9], [.blk]⟩, [⟨(.exit 5), [0, 5, 9, 12, 13], [.one (.int .i64), .one .ref, .lp 9 0, .one (.int .i64), .one (.int .i64)], [9], [.blk]⟩, ⟨.ret, [4], [.one .bool], [], []⟩], L4_2 N⟩)]⟩
theorem l4_0 (N : Nat) : ∀ A, (e4 N).lp (lid (loopAt Try.f4 0)) = some A → LoopOk (e4 N) N (loopAt Try.f4 0) A :=
  loopOk_of (A := ⟨⟨.normal, [0, 1, 5, 9, 10], [.one (.int .i64), .one .ref, .one .ref, .lp 9 0, .one (.int .i64)], [9], [.blk]⟩, [⟨(.exit 0), [0, 5, 9], [.one (.int .i64), .one .ref, .lp 9 0], [9], [.blk]⟩, ⟨.ret, [4], [.one .bool], [], []⟩], L4_0 N⟩) (by kernel_rfl) (fun _ => rfl) (fun _ _ => by kernel_rfl)
theorem l4_1 (N : Nat) : ∀ A, (e4 N).lp (lid (loopAt Try.f4 1)) = some A → LoopOk (e4 N) N (loopAt Try.f4 1) A :=
  loopOk_of (A := ⟨⟨.normal, [0, 5, 9, 12], [.one (.int .i64), .one .ref, .lp 9 0, .one (.int .i64)], [9], [.blk]⟩, [⟨(.exit 3), [], [], [], []⟩, ⟨.ret, [4], [.one .bool], [], []⟩], L4_1 N⟩) (by kernel_rfl) (fun _ => rfl) (fun _ _ => by kernel_rfl)
theorem l4_2 (N : Nat) : ∀ A, (e4 N).lp (lid (loopAt Try.f4 2)) = some A → LoopOk (e4 N) N (loopAt Try.f4 2) A :=
  loopOk_of (A := ⟨⟨.normal, [0, 5, 9, 12, 13, 14], [.one (.int .i64), .one .ref, .lp 9 0, .one (.int .i64), .one (.int .i64), .one (.int .i64)], [9], [.blk]⟩, [⟨(.exit 5), [0, 5, 9, 12, 13], [.one (.int .i64), .one .ref, .lp 9 0, .one (.int .i64), .one (.int .i64)], [9], [.blk]⟩, ⟨.ret, [4], [.one .bool], [], []⟩], L4_2 N⟩) (by kernel_rfl) (fun _ => rfl) (fun _ _ => by kernel_rfl)
theorem fine4 (N : Nat) : Fine (e4 N) N 4 Try.f4 ks4 rs4 (F4 N) :=
  ⟨Try.func4, by kernel_rfl, by kernel_rfl, by kernel_rfl, by kernel_rfl, loops_of ⟨l4_0 N, ⟨l4_1 N, ⟨l4_2 N, trivial⟩⟩⟩, by kernel_rfl, by kernel_rfl, fun _ => by kernel_rfl⟩
theorem good4 (N : Nat) : Go.L.Good (e4 N) := good_of ⟨gd15, trivial⟩ ⟨gd16 N, ⟨gd17 N, ⟨gd18 N, ⟨gd19 N, ⟨gd20 N, ⟨gd21 N, ⟨gd22 N, trivial⟩⟩⟩⟩⟩⟩⟩
theorem gd4 (N : Nat) : GoodF Try.prog (4, mkFun ks4 rs4 (F4 N)) := mkFun_good (fine4 N) (good4 N)

/-! ### 14: carouselref17.Mod -/
noncomputable def F14 (N : Nat) : Int × Int × H → Option (Int × Int × H)
  | (a0, a1, h) =>
    (if (decide (a1 < 1)) = true then (
    some (0, 1, h))
    else (
    (if a1 = 0 then none else (
    ((if (decide ((Int.tmod a0 a1) < 0)) = true then (
    some ((IntKind.i64.wrap ((Int.tmod a0 a1) + a1)), h))
    else (
    some ((Int.tmod a0 a1), h))) : Option (Int × H)).bind fun (x1, h2) =>
    some (x1, 0, h2)))))
abbrev ks14 : List SK := [.one (.int .i64), .one (.int .i64)]
abbrev rs14 : List SK := [.one (.int .i64), .one (.int .i64)]
noncomputable def e14 (N : Nat) : Env := ⟨Try.prog, 18, inTab [], inTab [], natTab [], pureTab [], tcOf [], noTcv, altTab [(13, [⟨.normal, [6], [.one (.int .i64)], [], []⟩])], loopTab []⟩
theorem fine14 (N : Nat) : Fine (e14 N) N 14 Try.f14 ks14 rs14 (F14 N) :=
  ⟨Try.func14, by kernel_rfl, by kernel_rfl, by kernel_rfl, by kernel_rfl, loops_of trivial, by kernel_rfl, by kernel_rfl, fun _ => by kernel_rfl⟩
theorem good14 (N : Nat) : Go.L.Good (e14 N) := good_of trivial trivial
theorem gd14 : GoodP Try.prog (14, mkP ks14 rs14 (F14 100)) := mkP_good (fine14 100) (good14 100) (by kernel_rfl) (by kernel_rfl)

/-! ### 3: carousellaw17.HomeMod -/
noncomputable def F3 (N : Nat) : Int × Int × H → Option (Bool × H)
  | (a0, a1, h) =>
    (F13 100 (a0, a1, [])).bind fun (x1, x2, _) =>
    (F14 100 (a0, a1, [])).bind fun (x3, x4, _) =>
    (if (x1 != x3) = true then (
    some (true, h))
    else (
    some ((x2 != x4), h))).bind fun (b5, h6) =>
    (if b5 = true then (
    some (false, h6))
    else (
    (if (decide (a1 < 1)) = true then (
    (F15 100 []).bind fun (x7, _) =>
    some (x7, h6))
    else (
    (if (decide (x1 < 0)) = true then (
    some (true, h6))
    else (
    some ((decide (x1 ≥ a1)), h6))).bind fun (b8, h9) =>
    (if b8 = true then (
    some (true, h9))
    else (
    (if a1 = 0 then none else (
    (if ((Int.tmod (IntKind.i64.wrap (a0 - x1)) a1) != 0) = true then (
    some ((decide (a0 > (-4611686018427387904))), h9))
    else (
    some (false, h9))).bind fun (b12, h13) =>
    some (b12, h13))))).bind fun (b10, h11) =>
    (if b10 = true then (
    some (false, h11))
    else (
    (if (a0 == 9223372036854775807) = true then (
    (F15 100 []).bind fun (x14, _) =>
    some (x14, h11))
    else (
    (F13 100 ((IntKind.i64.wrap (a0 + 1)), a1, [])).bind fun (x15, x16, _) =>
    (if (x16 == 0) = true then (
    (if a1 = 0 then none else (
    some ((x15 == (Int.tmod (IntKind.i64.wrap (x1 + 1)) a1)), h11))))
    else (
    some (false, h11))).bind fun (b17, h18) =>
    (if b17 = true then (
    (F15 100 []).bind fun (x21, _) =>
    some (x21, h18))
    else (
    some (false, h18))).bind fun (b19, h20) =>
    some (b19, h20)))))))))
abbrev ks3 : List SK := [.one (.int .i64), .one (.int .i64)]
abbrev rs3 : List SK := [.one .bool]
noncomputable def e3 (N : Nat) : Env := ⟨Try.prog, 76, inTab [], inTab [], natTab [], pureTab [(13, mkP ks13 rs13 (F13 100)), (14, mkP ks14 rs14 (F14 100)), (15, mkP ks15 rs15 (F15 100))], tcOf [], noTcv, altTab [], loopTab []⟩
theorem fine3 (N : Nat) : Fine (e3 N) N 3 Try.f3 ks3 rs3 (F3 N) :=
  ⟨Try.func3, by kernel_rfl, by kernel_rfl, by kernel_rfl, by kernel_rfl, loops_of trivial, by kernel_rfl, by kernel_rfl, fun _ => by kernel_rfl⟩
theorem good3 (N : Nat) : Go.L.Good (e3 N) := good_of ⟨gd13, ⟨gd14, ⟨gd15, trivial⟩⟩⟩ trivial
theorem gd3 : GoodP Try.prog (3, mkP ks3 rs3 (F3 100)) := mkP_good (fine3 100) (good3 100) (by kernel_rfl) (by kernel_rfl)

/-! ### 43: homes.Accounts).Least -/
noncomputable def L43_0 (N : Nat) : Nat → V × Int × Int × Int × Int × H → Option (Int × H)
  | 0, _ => none
  | n + 1, (x22, x23, x24, x25, x26, h27) =>
    (if (decide (x26 < x25)) = true then (
    (nck x22).bind fun _ =>
    (aidx (padd x22 1) x26 16 3).bind fun q28 =>
    (aidx q28 x23 3 1).bind fun q29 =>
    (L.asInt .i64 (rd h27 q29 0)).bind fun x30 =>
    (nck x22).bind fun _ =>
    (aidx (padd x22 1) x24 16 3).bind fun q31 =>
    (aidx q31 x23 3 1).bind fun q32 =>
    (L.asInt .i64 (rd h27 q32 0)).bind fun x33 =>
    ((if (decide (x30 < x33)) = true then (
    some (x22, x23, x26, x25, x26, h27))
    else (
    some (x22, x23, x24, x25, x26, h27))) : Option (V × Int × Int × Int × Int × H)).bind fun (x34, x35, x36, x37, x38, h39) =>
    L43_0 N n (x34, x35, x36, x37, (IntKind.i64.wrap (x38 + 1)), h39))
    else (
    some (x24, h27)))
noncomputable def F43 (N : Nat) : V × Int × H → Option (Int × Int × H)
  | (a0, a1, h) =>
    (F61 N (a0, 0, a1, h)).bind fun (x1, h2) =>
    (if (!x1) = true then (
    some (0, 1, h2))
    else (
    (nck a0).bind fun _ =>
    (L.asInt .i64 (rd h2 (padd a0 0) 0)).bind fun x3 =>
    (L43_0 N N (a0, a1, 0, x3, 0, h2)).bind fun (x40, h41) =>
    some (x40, 0, h41)))
abbrev ks43 : List SK := [.one .ref, .one (.int .i64)]
abbrev rs43 : List SK := [.one (.int .i64), .one (.int .i64)]
noncomputable def e43 (N : Nat) : Env := ⟨Try.prog, 39, inTab [], inTab [], natTab [], pureTab [], tcOf [(61, mkFun ks61 rs61 (F61 N))], noTcv, altTab [(35, [⟨.normal, [0, 1, 6, 15, 16], [.one .ref, .one (.int .i64), .one (.int .i64), .one (.int .i64), .one (.int .i64)], [], []⟩])], loopTab [(5, ⟨⟨.normal, [0, 1, 6, 15, 16], [.one .ref, .one (.int .i64), .one (.int .i64), .one (.int .i64), .one (.int .i64)], [], []⟩, [⟨(.exit 0), [6], [.one (.int .i64)], [], []⟩], L43_0 N⟩)]⟩
theorem l43_0 (N : Nat) : ∀ A, (e43 N).lp (lid (loopAt Try.f43 0)) = some A → LoopOk (e43 N) N (loopAt Try.f43 0) A :=
  loopOk_of (A := ⟨⟨.normal, [0, 1, 6, 15, 16], [.one .ref, .one (.int .i64), .one (.int .i64), .one (.int .i64), .one (.int .i64)], [], []⟩, [⟨(.exit 0), [6], [.one (.int .i64)], [], []⟩], L43_0 N⟩) (by kernel_rfl) (fun _ => rfl) (fun _ _ => by kernel_rfl)
theorem fine43 (N : Nat) : Fine (e43 N) N 43 Try.f43 ks43 rs43 (F43 N) :=
  ⟨Try.func43, by kernel_rfl, by kernel_rfl, by kernel_rfl, by kernel_rfl, loops_of ⟨l43_0 N, trivial⟩, by kernel_rfl, by kernel_rfl, fun _ => by kernel_rfl⟩
theorem good43 (N : Nat) : Go.L.Good (e43 N) := good_of trivial ⟨gd61 N, trivial⟩
theorem gd43 (N : Nat) : GoodF Try.prog (43, mkFun ks43 rs43 (F43 N)) := mkFun_good (fine43 N) (good43 N)

/-! ### 44: homes.Accounts).Copy -/
noncomputable def F44 (N : Nat) : V × H → Option (V × H)
  | (a0, h) =>
    (isNil a0).bind fun b1 =>
    (if b1 = true then (
    some (true, h))
    else (
    (nck a0).bind fun _ =>
    (L.asInt .i64 (rd h (padd a0 0) 0)).bind fun x4 =>
    some ((x4 == 0), h))).bind fun (b2, h3) =>
    (if b2 = true then (
    some (.nilp, h3))
    else (
    (nck a0).bind fun _ =>
    (rdN h3 a0 49).bind fun cs5 =>
    (some (h3 ++ [O.cells 0 (List.replicate 49 (.int .i64 0))]) : Option H).bind fun h6 =>
    (if (cs5).length = 49 then (
    (wr h6 (.ptr (h3).length 0 0) cs5).bind fun h7 =>
    some ((.ptr (h3).length 0 0), h7)) else none)))
abbrev ks44 : List SK := [.one .ref]
abbrev rs44 : List SK := [.one .ref]
noncomputable def e44 (N : Nat) : Env := ⟨Try.prog, 16, inTab [], inTab [], natTab [], pureTab [], tcOf [], noTcv, altTab [], loopTab []⟩
theorem fine44 (N : Nat) : Fine (e44 N) N 44 Try.f44 ks44 rs44 (F44 N) :=
  ⟨Try.func44, by kernel_rfl, by kernel_rfl, by kernel_rfl, by kernel_rfl, loops_of trivial, by kernel_rfl, by kernel_rfl, fun _ => by kernel_rfl⟩
theorem good44 (N : Nat) : Go.L.Good (e44 N) := good_of trivial trivial
theorem gd44 (N : Nat) : GoodF Try.prog (44, mkFun ks44 rs44 (F44 N)) := mkFun_good (fine44 N) (good44 N)

/-! ### 8: carousellaw17.HomeNobody -/
noncomputable def L8_0 (N : Nat) : Nat → Int × Int × V × Int × H → Option ((H) ⊕ (Bool × H))
  | 0, _ => none
  | n + 1, (x41, x42, x43, x44, h45) =>
    (slen x43).bind fun n46 =>
    (if (decide (x44 < n46)) = true then (
    (sidx x43 x44 1).bind fun q47 =>
    ((rd h45 q47 0)).bind fun x48 =>
    (F43 N (x48, x42, h45)).bind fun (x49, x50, h51) =>
    (F18 N (x48, x41, x42, h51)).bind fun (x52, h53) =>
    (if (x52 != 1) = true then (
    some (true, h53))
    else (
    (F19 N (x48, x41, x42, h53)).bind fun (x56, h57) =>
    some ((x56 != 1), h57))).bind fun (b54, h55) =>
    (if b54 = true then (
    some (true, h55))
    else (
    (F20 N (x48, x41, x41, x42, 0, h55)).bind fun (x60, h61) =>
    some ((x60 != 1), h61))).bind fun (b58, h59) =>
    (if b58 = true then (
    some (true, h59))
    else (
    (F21 N (x48, x41, x42, h59)).bind fun (x64, h65) =>
    some ((x64 != 0), h65))).bind fun (b62, h63) =>
    (if b62 = true then (
    some (true, h63))
    else (
    (F22 N (x48, x41, h63)).bind fun (cs68, h69) =>
    (L.asAgg 3 (some (.agg cs68))).bind fun cs70 =>
    (aggEq Try.prog 36 cs70 [(.int .i64 0), (.int .i64 0), (.int .i64 0)]).bind fun b71 =>
    some ((!b71), h69))).bind fun (b66, h67) =>
    (if b66 = true then (
    some (true, h67))
    else (
    some ((x50 != 1), h67))).bind fun (b72, h73) =>
    (if b72 = true then (
    some (true, h73))
    else (
    (F44 N (x48, h73)).bind fun (x76, h77) =>
    (isNil x76).bind fun b78 =>
    some ((!b78), h77))).bind fun (b74, h75) =>
    (if b74 = true then (
    some (.inr (false, h75)))
    else (
    L8_0 N n (x41, x42, x43, (IntKind.i64.wrap (x44 + 1)), h75))))
    else (
    some (.inl h45)))
noncomputable def F8 (N : Nat) : Int × Int × H → Option (Bool × H)
  | (a0, a1, h) =>
    (some (h ++ [O.cells 0 (List.replicate 49 (.int .i64 0))]) : Option H).bind fun h1 =>
    (some (h1 ++ [O.cells 0 [.nilp, (.ptr (h).length 0 0)]]) : Option H).bind fun h2 =>
    (L8_0 N N (a0, a1, (.sl (h1).length 0 0 2 1 (some 2)), 0, h2)).bind fun o79 => match o79 with
    | .inl h80 => (
    (F15 100 []).bind fun (x81, _) =>
    some (x81, h80))
    | .inr (x82, h83) => (
    some (x82, h83))
abbrev ks8 : List SK := [.one (.int .i64), .one (.int .i64)]
abbrev rs8 : List SK := [.one .bool]
noncomputable def e8 (N : Nat) : Env := ⟨Try.prog, 73, inTab [], inTab [], natTab [], pureTab [(15, mkP ks15 rs15 (F15 100))], tcOf [(43, mkFun ks43 rs43 (F43 N)), (18, mkFun ks18 rs18 (F18 N)), (19, mkFun ks19 rs19 (F19 N)), (20, mkFun ks20 rs20 (F20 N)), (21, mkFun ks21 rs21 (F21 N)), (22, mkFun ks22 rs22 (F22 N)), (44, mkFun ks44 rs44 (F44 N))], noTcv, altTab [], loopTab [(3, ⟨⟨.normal, [0, 1, 5, 6], [.one (.int .i64), .one (.int .i64), .one .ref, .one (.int .i64)], [], []⟩, [⟨(.exit 0), [], [], [], []⟩, ⟨.ret, [4], [.one .bool], [], []⟩], L8_0 N⟩)]⟩
theorem l8_0 (N : Nat) : ∀ A, (e8 N).lp (lid (loopAt Try.f8 0)) = some A → LoopOk (e8 N) N (loopAt Try.f8 0) A :=
  loopOk_of (A := ⟨⟨.normal, [0, 1, 5, 6], [.one (.int .i64), .one (.int .i64), .one .ref, .one (.int .i64)], [], []⟩, [⟨(.exit 0), [], [], [], []⟩, ⟨.ret, [4], [.one .bool], [], []⟩], L8_0 N⟩) (by kernel_rfl) (fun _ => rfl) (fun _ _ => by kernel_rfl)
theorem fine8 (N : Nat) : Fine (e8 N) N 8 Try.f8 ks8 rs8 (F8 N) :=
  ⟨Try.func8, by kernel_rfl, by kernel_rfl, by kernel_rfl, by kernel_rfl, loops_of ⟨l8_0 N, trivial⟩, by kernel_rfl, by kernel_rfl, fun _ => by kernel_rfl⟩
theorem good8 (N : Nat) : Go.L.Good (e8 N) := good_of ⟨gd15, trivial⟩ ⟨gd43 N, ⟨gd18 N, ⟨gd19 N, ⟨gd20 N, ⟨gd21 N, ⟨gd22 N, ⟨gd44 N, trivial⟩⟩⟩⟩⟩⟩⟩
theorem gd8 : GoodP Try.prog (8, mkP ks8 rs8 (F8 100)) := mkP_good (fine8 100) (good8 100) (by kernel_rfl) (by kernel_rfl)

end Go.Proofs.Ytbpibiapjangmaa
