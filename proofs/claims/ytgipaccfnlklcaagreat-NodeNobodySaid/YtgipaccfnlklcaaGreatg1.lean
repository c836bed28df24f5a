/- The functions that the law reaches, as plain ones (printed by gen.py). -/
import Derived.Test.YtgipaccfnlklcaaGreatLD
import Derived.Test.YtgipaccfnlklcaaGreatProg
import Derived.KernelRfl
set_option linter.unusedVariables false
set_option maxRecDepth 100000
namespace Go.Proofs.YtgipaccfnlklcaaGreat
noncomputable section
open Go.L

/-! ### 10: carousellaw21.forever -/
def F10 (N : Nat) : H → Option (ByteArray × V × H)
 | h =>
 (some (h ++ [O.cells 0 [(.int .i64 25), (.int .i64 0), (.int .i64 0), (.int .i64 0), (.int .i64 0), (.cplx .f64 0 0), (.str (ByteArray.mk #[])), (.int .i64 0), (.int .i64 0), .nils, .nils]]) : Option H).bind fun h1 =>
 (ck1 (.sl (h).length 0 0 1 11 (some 1))).bind fun _ =>
 (some (h1 ++ [O.cells 0 [(.str (ByteArray.mk #[102])), (.int .i64 0), (.int .i64 0), (.sl (h).length 0 0 1 11 (some 1))]]) : Option H).bind fun h2 =>
 (ck1 (.sl (h1).length 0 0 1 4 (some 1))).bind fun _ =>
 some ((ByteArray.mk #[109]), (.sl (h1).length 0 0 1 4 (some 1)), h2)
abbrev ks10 : List SK := []
abbrev rs10 : List SK := [.agg [.str, .ref]]
def e10 (N : Nat) : Env := ⟨Tryz.prog, 6, inTab [0], inTab [], natTab [(0, 0)], inTab [], calTab [], altTab [], loopTab [], natTab [], inTab []⟩
theorem fine10 (N : Nat) : Fine (e10 N) N 10 Tryz.f10 ks10 rs10 (F10 N) :=
  ⟨Tryz.func10, by kernel_rfl, by kernel_rfl, by kernel_rfl, loops_of trivial, by kernel_rfl, by kernel_rfl, fun _ => by kernel_rfl⟩
theorem good10 (N : Nat) : Go.L.Good (e10 N) := good_of trivial
theorem gdg10 (N : Nat) : CalOk Tryz.prog 10 (.gro (mkFun ks10 rs10 (F10 N))) := mkFun_groC (fine10 N) (good10 N) (by kernel_rfl)

/-! ### 44: node.Node).lives -/
def F44 (N : Nat) : V × H → Option (Bool × H)
 | (a0, h) =>
 (isNil a0).bind fun b1 =>
 (if (!b1) = true then (
 (nck a0).bind fun _ =>
 ((rd h (padd a0 5) 0)).bind fun x4 =>
 (slen x4).bind fun n5 =>
 some ((decide (n5 > 0)), h))
 else (
 some (false, h))).bind fun (b2, h3) =>
 some (b2, h3)
abbrev ks44 : List SK := [.one .ref]
abbrev rs44 : List SK := [.one .bool]
def e44 (N : Nat) : Env := ⟨Tryz.prog, 13, inTab [], inTab [], natTab [], inTab [], calTab [], altTab [], loopTab [], natTab [], inTab []⟩
theorem fine44 (N : Nat) : Fine (e44 N) N 44 Tryz.f44 ks44 rs44 (F44 N) :=
  ⟨Tryz.func44, by kernel_rfl, by kernel_rfl, by kernel_rfl, loops_of trivial, by kernel_rfl, by kernel_rfl, fun _ => by kernel_rfl⟩
theorem good44 (N : Nat) : Go.L.Good (e44 N) := good_of trivial
theorem gd44 (N : Nat) : CalOk Tryz.prog 44 (.ro (mkFun ks44 rs44 (F44 N))) := mkFun_ro (fine44 N) (good44 N) (by kernel_rfl)

/-! ### 35: node.Node).refused -/
def F35 (N : Nat) : V × H → Option (Int × H)
 | (a0, h) =>
 (F44 N (a0, h)).bind fun (x1, _) =>
 (if (!x1) = true then (
 some (1, h))
 else (
 (nck a0).bind fun _ =>
 ((rd h (padd a0 11) 0)).bind fun x2 =>
 (slen x2).bind fun n3 =>
 (if (decide (n3 ≥ 65536)) = true then (
 none)
 else (
 some (0, h)))))
abbrev ks35 : List SK := [.one .ref]
abbrev rs35 : List SK := [.one (.int .i64)]
def e35 (N : Nat) : Env := ⟨Tryz.prog, 12, inTab [], inTab [], natTab [], inTab [], calTab [(44, .ro (mkFun ks44 rs44 (F44 N)))], altTab [], loopTab [], natTab [], inTab [4]⟩
theorem fine35 (N : Nat) : Fine (e35 N) N 35 Tryz.f35 ks35 rs35 (F35 N) :=
  ⟨Tryz.func35, by kernel_rfl, by kernel_rfl, by kernel_rfl, loops_of trivial, by kernel_rfl, by kernel_rfl, fun _ => by kernel_rfl⟩
theorem good35 (N : Nat) : Go.L.Good (e35 N) := good_of ⟨gd44 N, trivial⟩
theorem gd35 (N : Nat) : CalOk Tryz.prog 35 (.ro (mkFun ks35 rs35 (F35 N))) := mkFun_ro (fine35 N) (good35 N) (by kernel_rfl)

/-! ### 440: term.atom -/
def L440_0 (N : Nat) : Nat → ByteArray × Int × H → Option (H)
 | 0, _ => none
 | n + 1, (x27, x28, h29) =>
 (if (decide (x28 < ((x27).size : Int))) = true then (
 (if 0 ≤ x28 then (x27[Int.toNat x28]?.bind fun c30 =>
 (if (decide (((UInt8.toNat c30 : Nat) : Int) ≥ 97)) = true then (
 some ((decide (((UInt8.toNat c30 : Nat) : Int) ≤ 122)), h29))
 else (
 some (false, h29))).bind fun (b31, h32) =>
 (if b31 = true then (
 some (true, h32))
 else (
 (if (decide (x28 > 0)) = true then (
 (if (decide (((UInt8.toNat c30 : Nat) : Int) ≥ 65)) = true then (
 some ((decide (((UInt8.toNat c30 : Nat) : Int) ≤ 90)), h32))
 else (
 some (false, h32))).bind fun (b37, h38) =>
 (if b37 = true then (
 some (true, h38))
 else (
 (if (decide (((UInt8.toNat c30 : Nat) : Int) ≥ 48)) = true then (
 some ((decide (((UInt8.toNat c30 : Nat) : Int) ≤ 57)), h38))
 else (
 some (false, h38))).bind fun (b41, h42) =>
 some (b41, h42))).bind fun (b39, h40) =>
 (if b39 = true then (
 some (true, h40))
 else (
 some ((((UInt8.toNat c30 : Nat) : Int) == 95), h40))).bind fun (b43, h44) =>
 some (b43, h44))
 else (
 some (false, h32))).bind fun (b35, h36) =>
 some (b35, h36))).bind fun (b33, h34) =>
 (if b33 = true then (
 L440_0 N n (x27, (IntKind.i64.wrap (x28 + 1)), h34))
 else (
 none))) else none))
 else (
 some h29))
def F440 (N : Nat) : ByteArray × H → Option (Bool × H)
 | (a0, h) =>
 (if (decide (((a0).size : Int) < 1)) = true then (
 some (true, h))
 else (
 some ((decide (((a0).size : Int) > 64)), h))).bind fun (b1, h2) =>
 (if b1 = true then (
 some (true, h2))
 else (
 some (((a0).toList == ((ByteArray.mk #[110, 105, 108])).toList), h2))).bind fun (b3, h4) =>
 (if b3 = true then (
 some (true, h4))
 else (
 some (((a0).toList == ((ByteArray.mk #[116, 114, 117, 101])).toList), h4))).bind fun (b5, h6) =>
 (if b5 = true then (
 some (true, h6))
 else (
 some (((a0).toList == ((ByteArray.mk #[102, 97, 108, 115, 101])).toList), h6))).bind fun (b7, h8) =>
 (if b7 = true then (
 none)
 else (
 (L440_0 N N (a0, 0, h8)).bind fun h45 =>
 some (true, h45)))
abbrev ks440 : List SK := [.one .str]
abbrev rs440 : List SK := [.one .bool]
def e440 (N : Nat) : Env := ⟨Tryz.prog, 64, inTab [], inTab [], natTab [], inTab [], calTab [], altTab [], loopTab [(4, ⟨⟨.normal, [0, 3], [.one .str, .one (.int .i64)], [], []⟩, [⟨(.exit 0), [], [], [], []⟩], L440_0 N⟩)], natTab [], inTab [2, 8]⟩
theorem l440_0 (N : Nat) : ∀ A, (e440 N).lp (lid (loopAt Tryz.f440 0)) = some A → LoopOk (e440 N) N (loopAt Tryz.f440 0) A :=
  loopOk_of (A := ⟨⟨.normal, [0, 3], [.one .str, .one (.int .i64)], [], []⟩, [⟨(.exit 0), [], [], [], []⟩], L440_0 N⟩) (by kernel_rfl) (fun _ => rfl) (fun _ _ => by kernel_rfl)
theorem fine440 (N : Nat) : Fine (e440 N) N 440 Tryz.f440 ks440 rs440 (F440 N) :=
  ⟨Tryz.func440, by kernel_rfl, by kernel_rfl, by kernel_rfl, loops_of ⟨l440_0 N, trivial⟩, by kernel_rfl, by kernel_rfl, fun _ => by kernel_rfl⟩
theorem good440 (N : Nat) : Go.L.Good (e440 N) := good_of trivial
theorem gd440 : CalOk Tryz.prog 440 (.pure (mkP ks440 rs440 (F440 100))) := mkP_good (fine440 100) (good440 100) (by kernel_rfl) (by kernel_rfl)

/-! ### 438: term.own$1 -/
def F438 (N : Nat) : Bool × Bool × Bool × Bool × Bool × V × H → Option (Bool × H)
 | (a0, a1, a2, a3, a4, a5, h) =>
 (if a0 = true then (
 some (true, h))
 else (
 (nck a5).bind fun _ =>
 (L.asInt .i64 (rd h (padd a5 1) 0)).bind fun x3 =>
 some ((x3 == 0), h))).bind fun (b1, h2) =>
 (if b1 = true then (
 (if a1 = true then (
 some (true, h2))
 else (
 (nck a5).bind fun _ =>
 (L.asCplx .f64 (rd h2 (padd a5 2) 0)).bind fun x8 =>
 some ((Op.floatEq .f64 x8.1 0 && Op.floatEq .f64 x8.2 0), h2))).bind fun (b6, h7) =>
 some (b6, h7))
 else (
 some (false, h2))).bind fun (b4, h5) =>
 (if b4 = true then (
 (if a2 = true then (
 some (true, h5))
 else (
 (nck a5).bind fun _ =>
 (L.asStr (rd h5 (padd a5 3) 0)).bind fun x13 =>
 some (((x13).toList == ((ByteArray.mk #[])).toList), h5))).bind fun (b11, h12) =>
 some (b11, h12))
 else (
 some (false, h5))).bind fun (b9, h10) =>
 (if b9 = true then (
 (if a3 = true then (
 some (true, h10))
 else (
 (nck a5).bind fun _ =>
 (L.asInt .i64 (rd h10 (padd a5 4) 0)).bind fun x18 =>
 (L.asInt .i64 (rd h10 (padd a5 4) 1)).bind fun x19 =>
 some (((x18 == 0) && ((x19 == 0) && true)), h10))).bind fun (b16, h17) =>
 some (b16, h17))
 else (
 some (false, h10))).bind fun (b14, h15) =>
 (if b14 = true then (
 (if a4 = true then (
 some (true, h15))
 else (
 (nck a5).bind fun _ =>
 ((rd h15 (padd a5 6) 0)).bind fun x24 =>
 (slen x24).bind fun n25 =>
 some ((n25 == 0), h15))).bind fun (b22, h23) =>
 some (b22, h23))
 else (
 some (false, h15))).bind fun (b20, h21) =>
 some (b20, h21)
abbrev ks438 : List SK := [.one .bool, .one .bool, .one .bool, .one .bool, .one .bool, .one .ref]
abbrev rs438 : List SK := [.one .bool]
def e438 (N : Nat) : Env := ⟨Tryz.prog, 52, inTab [], inTab [], natTab [], inTab [], calTab [], altTab [], loopTab [], natTab [], inTab []⟩
theorem fine438 (N : Nat) : Fine (e438 N) N 438 Tryz.f438 ks438 rs438 (F438 N) :=
  ⟨Tryz.func438, by kernel_rfl, by kernel_rfl, by kernel_rfl, loops_of trivial, by kernel_rfl, by kernel_rfl, fun _ => by kernel_rfl⟩
theorem good438 (N : Nat) : Go.L.Good (e438 N) := good_of trivial
theorem gd438 (N : Nat) : CalOk Tryz.prog 438 (.ro (mkFun ks438 rs438 (F438 N))) := mkFun_ro (fine438 N) (good438 N) (by kernel_rfl)

/-! ### 357: term.own -/
abbrev rs357_62 : List SK := [.one .bool]
def D357_62 (N : Nat) : List (Nat × (List V → H → Option (Tup rs357_62 H))) := [(438, (mkFun ks438 rs438 (F438 N)).F)]
theorem dg357_62 (N : Nat) : CalOk Tryz.prog 16777278 (.dyn (dynF rs357_62 (D357_62 N))) := dyn_good ⟨mkFun_good (fine438 N) (good438 N), trivial⟩
def F357 (N : Nat) : Int × Int × (Nat × Nat) × ByteArray × Int × Int × V × H → Option (Bool × H)
 | (a0_0, a0_1, a0_2, a0_3, a0_4, a0_5, a0_6, h) =>
 (some (h ++ [O.cells 0 [(.int .i64 a0_0), (.int .i64 a0_1), (.cplx .f64 a0_2.1 a0_2.2), (.str a0_3), (.int .i64 a0_4), (.int .i64 a0_5), a0_6]]) : Option H).bind fun h1 =>
 (L.asInt .i64 (rd h1 (.ptr (h).length 0 0) 0)).bind fun x2 =>
 (if (x2 == 1) = true then (
 none)
 else (
 (if (x2 == 2) = true then (
 none)
 else (
 (if (x2 == 3) = true then (
 none)
 else (
 (if (x2 == 4) = true then (
 none)
 else (
 (if (x2 == 5) = true then (
 (L.asStr (rd h1 (.ptr (h).length 0 3) 0)).bind fun x3 =>
 (F440 100 (x3, [])).bind fun (x4, _) =>
 (if x4 = true then (
 Option.bind (α := Bool × H) (dynC rs357_62 (D357_62 N) (.fn 438 [(.ptr (h).length 0 0)]) [(.bool false), (.bool false), (.bool true), (.bool false), (.bool false)] h1) fun (x7, h8) =>
 some (x7, h8))
 else (
 some (false, h1))).bind fun (b5, h6) =>
 some (b5, h6))
 else (
 none))))))))))
abbrev ks357 : List SK := [.agg [(.int .i64), (.int .i64), (.cplx .f64), .str, (.int .i64), (.int .i64), .ref]]
abbrev rs357 : List SK := [.one .bool]
def e357 (N : Nat) : Env := ⟨Tryz.prog, 111, inTab [], inTab [], natTab [], inTab [], calTab [(440, .pure (mkP ks440 rs440 (F440 100))), (16777278, .dyn (dynF rs357_62 (D357_62 N)))], altTab [], loopTab [], natTab [], inTab [4, 6, 8, 10, 13, 14, 15, 16, 17, 18, 19, 20]⟩
theorem fine357 (N : Nat) : Fine (e357 N) N 357 Tryz.f357 ks357 rs357 (F357 N) :=
  ⟨Tryz.func357, by kernel_rfl, by kernel_rfl, by kernel_rfl, loops_of trivial, by kernel_rfl, by kernel_rfl, fun _ => by kernel_rfl⟩
theorem good357 (N : Nat) : Go.L.Good (e357 N) := good_of ⟨gd440, ⟨dg357_62 N, trivial⟩⟩
theorem gd357 (N : Nat) : CalOk Tryz.prog 357 (.full (mkFun ks357 rs357 (F357 N))) := mkFun_good (fine357 N) (good357 N)

/-! ### 258: term.walk -/
def L258_0 (N : Nat) (rec : Int × Int × (Nat × Nat) × ByteArray × Int × Int × V × Int × V × V × H → Option (Int × H)) : Nat → Int × Int × H → Option (H)
 | 0, _ => none
 | n + 1, (x14, x15, h16) =>
 (if (decide (x15 < x14)) = true then (
 none)
 else (
 some h16))
def F258 (N : Nat) : Nat → Int × Int × (Nat × Nat) × ByteArray × Int × Int × V × Int × V × V × H → Option (Int × H)
 | 0, _ => none
 | d + 1, (a0_0, a0_1, a0_2, a0_3, a0_4, a0_5, a0_6, a1, a2, a3, h) =>
 (nck a2).bind fun _ =>
 (L.asInt .i64 (rd h a2 0)).bind fun x1 =>
 (nck a2).bind fun _ =>
 (wr h a2 [(.int .i64 (IntKind.i64.wrap (x1 + 1)))]).bind fun h2 =>
 (nck a3).bind fun _ =>
 (L.asInt .i64 (rd h2 a3 0)).bind fun x3 =>
 (nck a3).bind fun _ =>
 (wr h2 a3 [(.int .i64 (if a1 > x3 then a1 else x3))]).bind fun h4 =>
 (nck a2).bind fun _ =>
 (L.asInt .i64 (rd h4 a2 0)).bind fun x5 =>
 (if (decide (x5 > 1024)) = true then (
 some (true, h4))
 else (
 some ((decide (a1 > 64)), h4))).bind fun (b6, h7) =>
 (if b6 = true then (
 none)
 else (
 (F357 N (a0_0, a0_1, (a0_2.1, a0_2.2), a0_3, a0_4, a0_5, a0_6, h7)).bind fun (x8, h9) =>
 (if (!x8) = true then (
 none)
 else (
 (slen a0_6).bind fun n10 =>
 (L258_0 N (F258 N d) N (n10, 0, h9)).bind fun h17 =>
 some (0, h17)))))
abbrev ks258 : List SK := [.agg [(.int .i64), (.int .i64), (.cplx .f64), .str, (.int .i64), (.int .i64), .ref], .one (.int .i64), .one .ref, .one .ref]
abbrev rs258 : List SK := [.one (.int .i64)]
def e258 (N d : Nat) : Env := ⟨Tryz.prog, 54, inTab [4], inTab [], natTab [(4, 4), (34, 4), (40, 4)], inTab [], calTab [(357, .full (mkFun ks357 rs357 (F357 N)))], altTab [], loopTab [(8, ⟨⟨.normal, [36, 37], [.one (.int .i64), .one (.int .i64)], [], []⟩, [⟨(.exit 0), [], [], [], []⟩], L258_0 N (F258 N d)⟩)], natTab [], inTab [4, 6, 9, 10, 11, 12, 13]⟩
theorem l258_0 (N d : Nat) : ∀ A, (e258 N d).lp (lid (loopAt Tryz.f258 0)) = some A → LoopOk (e258 N d) N (loopAt Tryz.f258 0) A :=
  loopOk_of (A := ⟨⟨.normal, [36, 37], [.one (.int .i64), .one (.int .i64)], [], []⟩, [⟨(.exit 0), [], [], [], []⟩], L258_0 N (F258 N d)⟩) (by kernel_rfl) (fun _ => rfl) (fun _ _ => by kernel_rfl)
theorem fine258 (N d : Nat) : Fine (e258 N d) N 258 Tryz.f258 ks258 rs258 (F258 N (d + 1)) :=
  ⟨Tryz.func258, by kernel_rfl, by kernel_rfl, by kernel_rfl, loops_of ⟨l258_0 N d, trivial⟩, by kernel_rfl, by kernel_rfl, fun _ => by kernel_rfl⟩
theorem gd258 (N : Nat) : ∀ d, CalOk Tryz.prog 258 (.full (mkFun ks258 rs258 (F258 N d)))
  | 0 => fun vs h s he => by obtain ⟨t, _, he⟩ := Option.bind_eq_some_iff.1 he; cases he
  | d + 1 => mkFun_good (fine258 N d) (good_of ⟨gd357 N, trivial⟩)
theorem good258 (N d : Nat) : Go.L.Good (e258 N d) := good_of ⟨gd357 N, trivial⟩

/-! ### 142: term.Parts -/
def F142 (N : Nat) : Int × Int × (Nat × Nat) × ByteArray × Int × Int × V × H → Option (Int × Int × Int × H)
 | (a0_0, a0_1, a0_2, a0_3, a0_4, a0_5, a0_6, h) =>
 (some (h ++ [O.cells 0 [(.int .i64 0)]]) : Option H).bind fun h1 =>
 (some (h1 ++ [O.cells 0 [(.int .i64 0)]]) : Option H).bind fun h2 =>
 (F258 N N (a0_0, a0_1, (a0_2.1, a0_2.2), a0_3, a0_4, a0_5, a0_6, 1, (.ptr (h).length 0 0), (.ptr (h1).length 0 0), h2)).bind fun (x3, h4) =>
 (if (x3 != 0) = true then (
 none)
 else (
 (L.asInt .i64 (rd h4 (.ptr (h).length 0 0) 0)).bind fun x5 =>
 (L.asInt .i64 (rd h4 (.ptr (h1).length 0 0) 0)).bind fun x6 =>
 (wr h4 (.ptr (h).length 0 0) [(.int .i64 x5)]).bind fun h7 =>
 (wr h7 (.ptr (h1).length 0 0) [(.int .i64 x6)]).bind fun h8 =>
 (L.asInt .i64 (rd h8 (.ptr (h).length 0 0) 0)).bind fun x9 =>
 (L.asInt .i64 (rd h8 (.ptr (h1).length 0 0) 0)).bind fun x10 =>
 some (x9, x10, 0, h8)))
abbrev ks142 : List SK := [.agg [(.int .i64), (.int .i64), (.cplx .f64), .str, (.int .i64), (.int .i64), .ref]]
abbrev rs142 : List SK := [.one (.int .i64), .one (.int .i64), .one (.int .i64)]
def e142 (N : Nat) : Env := ⟨Tryz.prog, 12, inTab [1], inTab [], natTab [(1, 1)], inTab [], calTab [(258, .full (mkFun ks258 rs258 (F258 N N)))], altTab [], loopTab [], natTab [], inTab [3]⟩
theorem fine142 (N : Nat) : Fine (e142 N) N 142 Tryz.f142 ks142 rs142 (F142 N) :=
  ⟨Tryz.func142, by kernel_rfl, by kernel_rfl, by kernel_rfl, loops_of trivial, by kernel_rfl, by kernel_rfl, fun _ => by kernel_rfl⟩
theorem good142 (N : Nat) : Go.L.Good (e142 N) := good_of ⟨gd258 N N, trivial⟩
theorem gd142 (N : Nat) : CalOk Tryz.prog 142 (.full (mkFun ks142 rs142 (F142 N))) := mkFun_good (fine142 N) (good142 N)

/-! ### 58: term.Check -/
def F58 (N : Nat) : Int × Int × (Nat × Nat) × ByteArray × Int × Int × V × H → Option (Int × H)
 | (a0_0, a0_1, a0_2, a0_3, a0_4, a0_5, a0_6, h) =>
 (F142 N (a0_0, a0_1, (a0_2.1, a0_2.2), a0_3, a0_4, a0_5, a0_6, h)).bind fun (x1, x2, x3, h4) =>
 some (x3, h4)
abbrev ks58 : List SK := [.agg [(.int .i64), (.int .i64), (.cplx .f64), .str, (.int .i64), (.int .i64), .ref]]
abbrev rs58 : List SK := [.one (.int .i64)]
def e58 (N : Nat) : Env := ⟨Tryz.prog, 13, inTab [1], inTab [], natTab [(1, 1)], inTab [], calTab [(142, .full (mkFun ks142 rs142 (F142 N)))], altTab [], loopTab [], natTab [], inTab []⟩
theorem fine58 (N : Nat) : Fine (e58 N) N 58 Tryz.f58 ks58 rs58 (F58 N) :=
  ⟨Tryz.func58, by kernel_rfl, by kernel_rfl, by kernel_rfl, loops_of trivial, by kernel_rfl, by kernel_rfl, fun _ => by kernel_rfl⟩
theorem good58 (N : Nat) : Go.L.Good (e58 N) := good_of ⟨gd142 N, trivial⟩
theorem gd58 (N : Nat) : CalOk Tryz.prog 58 (.full (mkFun ks58 rs58 (F58 N))) := mkFun_good (fine58 N) (good58 N)

/-! ### 106: code.named -/
def F106 (N : Nat) : ByteArray × H → Option (Bool × H)
 | (a0, h) =>
 (F58 N (5, 0, (0, 0), a0, 0, 0, .nils, h)).bind fun (x1, h2) =>
 some ((x1 == 0), h2)
abbrev ks106 : List SK := [.one .str]
abbrev rs106 : List SK := [.one .bool]
def e106 (N : Nat) : Env := ⟨Tryz.prog, 7, inTab [], inTab [], natTab [], inTab [], calTab [(58, .full (mkFun ks58 rs58 (F58 N)))], altTab [], loopTab [], natTab [], inTab []⟩
theorem fine106 (N : Nat) : Fine (e106 N) N 106 Tryz.f106 ks106 rs106 (F106 N) :=
  ⟨Tryz.func106, by kernel_rfl, by kernel_rfl, by kernel_rfl, loops_of trivial, by kernel_rfl, by kernel_rfl, fun _ => by kernel_rfl⟩
theorem good106 (N : Nat) : Go.L.Good (e106 N) := good_of ⟨gd58 N, trivial⟩
theorem gd106 (N : Nat) : CalOk Tryz.prog 106 (.full (mkFun ks106 rs106 (F106 N))) := mkFun_good (fine106 N) (good106 N)

/-! ### 107: code.headed -/
def L107_0 (N : Nat) : Nat → Int × Int × ByteArray × Int × Int × V × H → Option (ByteArray × Int × Int × V × H)
 | 0, _ => none
 | n + 1, (x16, x17, x18, x19, x20, x21, h22) =>
 (if (decide (x17 < x16)) = true then (
 none)
 else (
 some (x18, x19, x20, x21, h22)))
def F107 (N : Nat) : ByteArray × V × Int × H → Option (Bool × H)
 | (a0_0, a0_1, a1, h) =>
 (sidx a0_1 a1 4).bind fun q1 =>
 (L.asStr (rd h q1 0)).bind fun x2 =>
 (L.asInt .i64 (rd h q1 1)).bind fun x3 =>
 (L.asInt .i64 (rd h q1 2)).bind fun x4 =>
 ((rd h q1 3)).bind fun x5 =>
 (slen a0_1).bind fun n6 =>
 (ssl 4 a0_1 0 a1).bind fun v7 =>
 (slen v7).bind fun n8 =>
 (L107_0 N N (n8, 0, x2, x3, x4, x5, h)).bind fun (x23, x24, x25, x26, h27) =>
 (F106 N (x23, h27)).bind fun (x28, h29) =>
 (if x28 = true then (
 some ((decide (x24 ≥ 0)), h29))
 else (
 some (false, h29))).bind fun (b30, h31) =>
 (if b30 = true then (
 some ((decide (x24 ≤ x25)), h31))
 else (
 some (false, h31))).bind fun (b32, h33) =>
 (if b32 = true then (
 some ((decide (x25 ≤ 32)), h33))
 else (
 some (false, h33))).bind fun (b34, h35) =>
 (if b34 = true then (
 (slen x26).bind fun n38 =>
 some ((decide (n38 ≥ 1)), h35))
 else (
 some (false, h35))).bind fun (b36, h37) =>
 (if b36 = true then (
 (slen x26).bind fun n41 =>
 some ((decide (n41 ≤ 1024)), h37))
 else (
 some (false, h37))).bind fun (b39, h40) =>
 some (b39, h40)
abbrev ks107 : List SK := [.agg [.str, .ref], .one (.int .i64)]
abbrev rs107 : List SK := [.one .bool]
def e107 (N : Nat) : Env := ⟨Tryz.prog, 60, inTab [2, 5, 7], inTab [], natTab [(2, 2), (5, 5), (7, 7), (8, 2), (13, 2), (22, 7), (24, 5), (28, 5), (32, 5), (37, 5), (39, 5), (44, 5), (49, 5), (55, 5)], inTab [], calTab [(106, .full (mkFun ks106 rs106 (F106 N)))], altTab [], loopTab [(3, ⟨⟨.normal, [5, 17, 18], [.lp 5 0, .one (.int .i64), .one (.int .i64)], [5], [.cells [.str, (.int .i64), (.int .i64), .ref]]⟩, [⟨(.exit 0), [5], [.lp 5 0], [5], [.cells [.str, (.int .i64), (.int .i64), .ref]]⟩], L107_0 N⟩)], natTab [], inTab [4, 5, 6, 7]⟩
theorem l107_0 (N : Nat) : ∀ A, (e107 N).lp (lid (loopAt Tryz.f107 0)) = some A → LoopOk (e107 N) N (loopAt Tryz.f107 0) A :=
  loopOk_of (A := ⟨⟨.normal, [5, 17, 18], [.lp 5 0, .one (.int .i64), .one (.int .i64)], [5], [.cells [.str, (.int .i64), (.int .i64), .ref]]⟩, [⟨(.exit 0), [5], [.lp 5 0], [5], [.cells [.str, (.int .i64), (.int .i64), .ref]]⟩], L107_0 N⟩) (by kernel_rfl) (fun _ => rfl) (fun _ _ => by kernel_rfl)
theorem fine107 (N : Nat) : Fine (e107 N) N 107 Tryz.f107 ks107 rs107 (F107 N) :=
  ⟨Tryz.func107, by kernel_rfl, by kernel_rfl, by kernel_rfl, loops_of ⟨l107_0 N, trivial⟩, by kernel_rfl, by kernel_rfl, fun _ => by kernel_rfl⟩
theorem good107 (N : Nat) : Go.L.Good (e107 N) := good_of ⟨gd106 N, trivial⟩
theorem gd107 (N : Nat) : CalOk Tryz.prog 107 (.full (mkFun ks107 rs107 (F107 N))) := mkFun_good (fine107 N) (good107 N)

/-! ### 315: code.is -/
def F315 (N : Nat) : Int × H → Option (Bool × H)
 | (a0, h) =>
 (if (decide (a0 ≥ 1)) = true then (
 some ((decide (a0 ≤ 46)), h))
 else (
 some (false, h))).bind fun (b1, h2) =>
 some (b1, h2)
abbrev ks315 : List SK := [.one (.int .i64)]
abbrev rs315 : List SK := [.one .bool]
def e315 (N : Nat) : Env := ⟨Tryz.prog, 9, inTab [], inTab [], natTab [], inTab [], calTab [], altTab [], loopTab [], natTab [], inTab []⟩
theorem fine315 (N : Nat) : Fine (e315 N) N 315 Tryz.f315 ks315 rs315 (F315 N) :=
  ⟨Tryz.func315, by kernel_rfl, by kernel_rfl, by kernel_rfl, loops_of trivial, by kernel_rfl, by kernel_rfl, fun _ => by kernel_rfl⟩
theorem good315 (N : Nat) : Go.L.Good (e315 N) := good_of trivial
theorem gd315 : CalOk Tryz.prog 315 (.pure (mkP ks315 rs315 (F315 100))) := mkP_good (fine315 100) (good315 100) (by kernel_rfl) (by kernel_rfl)

/-! ### 316: code.same -/
def F316 (N : Nat) : Int × Int × (Nat × Nat) × ByteArray × Int × Int × V × H → Option (Bool × H)
 | (a0_0, a0_1, a0_2, a0_3, a0_4, a0_5, a0_6, h) =>
 (if (a0_0 == 0) = true then (
 some ((a0_1 == 0), h))
 else (
 some (false, h))).bind fun (b1, h2) =>
 (if b1 = true then (
 some ((Op.floatEq .f64 a0_2.1 0 && Op.floatEq .f64 a0_2.2 0), h2))
 else (
 some (false, h2))).bind fun (b3, h4) =>
 (if b3 = true then (
 some (((a0_3).toList == ((ByteArray.mk #[])).toList), h4))
 else (
 some (false, h4))).bind fun (b5, h6) =>
 (if b5 = true then (
 some (((a0_4 == 0) && ((a0_5 == 0) && true)), h6))
 else (
 some (false, h6))).bind fun (b7, h8) =>
 (if b7 = true then (
 (slen a0_6).bind fun n11 =>
 some ((n11 == 0), h8))
 else (
 some (false, h8))).bind fun (b9, h10) =>
 some (b9, h10)
abbrev ks316 : List SK := [.agg [(.int .i64), (.int .i64), (.cplx .f64), .str, (.int .i64), (.int .i64), .ref]]
abbrev rs316 : List SK := [.one .bool]
def e316 (N : Nat) : Env := ⟨Tryz.prog, 33, inTab [1], inTab [], natTab [(1, 1), (3, 1), (7, 1), (12, 1), (17, 1), (22, 1), (28, 1)], inTab [], calTab [], altTab [], loopTab [], natTab [], inTab []⟩
theorem fine316 (N : Nat) : Fine (e316 N) N 316 Tryz.f316 ks316 rs316 (F316 N) :=
  ⟨Tryz.func316, by kernel_rfl, by kernel_rfl, by kernel_rfl, loops_of trivial, by kernel_rfl, by kernel_rfl, fun _ => by kernel_rfl⟩
theorem good316 (N : Nat) : Go.L.Good (e316 N) := good_of trivial
theorem gd316 (N : Nat) : CalOk Tryz.prog 316 (.ro (mkFun ks316 rs316 (F316 N))) := mkFun_ro (fine316 N) (good316 N) (by kernel_rfl)

/-! ### 216: code.may -/
def F216 (N : Nat) : ByteArray × V × ByteArray × Int × Int × V × Int × Int × Int × Int × Int × (Nat × Nat) × ByteArray × Int × Int × V × V × H → Option (Bool × H)
 | (a0_0, a0_1, a1_0, a1_1, a1_2, a1_3, a2_0, a2_1, a2_2, a2_3, a2_4, a2_5, a2_6, a2_7, a2_8, a2_9, a2_10, h) =>
 (F315 100 (a2_0, [])).bind fun (x1, _) =>
 (if (!x1) = true then (
 some (true, h))
 else (
 (if (a2_0 != 1) = true then (
 (F316 N (a2_3, a2_4, (a2_5.1, a2_5.2), a2_6, a2_7, a2_8, a2_9, h)).bind fun (x6, _) =>
 some ((!x6), h))
 else (
 some (false, h))).bind fun (b4, h5) =>
 some (b4, h5))).bind fun (b2, h3) =>
 (if b2 = true then (
 some (true, h3))
 else (
 (if (a2_0 != 27) = true then (
 some ((a2_0 != 33), h3))
 else (
 some (false, h3))).bind fun (b9, h10) =>
 (if b9 = true then (
 (slen a2_10).bind fun n13 =>
 some ((decide (n13 > 0)), h10))
 else (
 some (false, h10))).bind fun (b11, h12) =>
 some (b11, h12))).bind fun (b7, h8) =>
 (if b7 = true then (
 some (true, h8))
 else (
 (if (a2_0 != 34) = true then (
 some ((a2_0 != 33), h8))
 else (
 some (false, h8))).bind fun (b16, h17) =>
 (if b16 = true then (
 some ((a2_2 != 0), h17))
 else (
 some (false, h17))).bind fun (b18, h19) =>
 some (b18, h19))).bind fun (b14, h15) =>
 (if b14 = true then (
 none)
 else (
 (if (a2_0 == 1) = true then (
 none)
 else (
 (if (a2_0 == 3) = true then (
 none)
 else (
 ((if (a2_0 == 4) = true then (
 some (a2_0, (a2_0 == 4), h15))
 else (
 some (a2_0, (a2_0 == 5), h15))) : Option (Int × Bool × H)).bind fun (x20, x21, h22) =>
 (if x21 = true then (
 none)
 else (
 (if (x20 == 17) = true then (
 none)
 else (
 ((if (x20 == 18) = true then (
 some (x20, (x20 == 18), h22))
 else (
 some (x20, (x20 == 19), h22))) : Option (Int × Bool × H)).bind fun (x23, x24, h25) =>
 (if x24 = true then (
 none)
 else (
 (if (x23 == 25) = true then (
 (if (x23 == 25) = true then (
 some (true, h25))
 else (
 none)))
 else (
 none))))))))))))))
abbrev ks216 : List SK := [.agg [.str, .ref], .agg [.str, (.int .i64), (.int .i64), .ref], .agg [(.int .i64), (.int .i64), (.int .i64), (.int .i64), (.int .i64), (.cplx .f64), .str, (.int .i64), (.int .i64), .ref, .ref]]
abbrev rs216 : List SK := [.one .bool]
def e216 (N : Nat) : Env := ⟨Tryz.prog, 156, inTab [3, 4, 5], inTab [], natTab [(3, 3), (4, 4), (5, 5), (7, 5), (12, 5), (16, 5), (23, 5), (27, 5), (32, 5), (39, 5), (43, 5), (48, 5), (53, 5), (57, 5), (61, 5), (68, 5), (74, 5), (76, 4), (81, 5), (85, 5), (92, 5), (100, 5), (102, 3), (108, 5), (110, 3), (115, 5), (121, 5), (123, 4), (128, 5), (132, 5), (137, 5), (141, 5), (147, 5), (149, 4), (153, 5)], inTab [], calTab [(315, .pure (mkP ks315 rs315 (F315 100))), (316, .ro (mkFun ks316 rs316 (F316 N)))], altTab [(2415919175, [⟨.normal, [54, 71], [.one (.int .i64), .one .bool], [], []⟩]), (3758096473, [⟨.normal, [54, 89], [.one (.int .i64), .one .bool], [], []⟩])], loopTab [], natTab [], inTab [2, 5, 7, 10, 12, 15, 17, 19, 20, 21, 22, 23, 24, 25, 26, 27]⟩
theorem fine216 (N : Nat) : Fine (e216 N) N 216 Tryz.f216 ks216 rs216 (F216 N) :=
  ⟨Tryz.func216, by kernel_rfl, by kernel_rfl, by kernel_rfl, loops_of trivial, by kernel_rfl, by kernel_rfl, fun _ => by kernel_rfl⟩
theorem good216 (N : Nat) : Go.L.Good (e216 N) := good_of ⟨gd315, ⟨gd316 N, trivial⟩⟩
theorem gd216 (N : Nat) : CalOk Tryz.prog 216 (.ro (mkFun ks216 rs216 (F216 N))) := mkFun_ro (fine216 N) (good216 N) (by kernel_rfl)

/-! ### 217: code.goes -/
def L217_0 (N : Nat) : Nat → V × Int × Int × H → Option (V × H)
 | 0, _ => none
 | n + 1, (x8, x9, x10, h11) =>
 (if (decide (x10 < x9)) = true then (
 none)
 else (
 some (x8, h11)))
def F217 (N : Nat) : Int × Int × Int × Int × Int × (Nat × Nat) × ByteArray × Int × Int × V × V × H → Option (V × H)
 | (a0_0, a0_1, a0_2, a0_3, a0_4, a0_5, a0_6, a0_7, a0_8, a0_9, a0_10, h) =>
 (if (a0_0 == 25) = true then (
 (if (a0_0 == 25) = true then (
 (happ h .nils 1 1 [(.int .i64 a0_1)]).bind fun (v1, h2) =>
 (slen a0_10).bind fun n3 =>
 (L217_0 N N (v1, n3, 0, h2)).bind fun (x12, h13) =>
 some (x12, h13))
 else (
 none)))
 else (
 none))
abbrev ks217 : List SK := [.agg [(.int .i64), (.int .i64), (.int .i64), (.int .i64), (.int .i64), (.cplx .f64), .str, (.int .i64), (.int .i64), .ref, .ref]]
abbrev rs217 : List SK := [.one .ref]
def e217 (N : Nat) : Env := ⟨Tryz.prog, 41, inTab [1, 5, 15, 25, 37], inTab [], natTab [(1, 1), (5, 5), (6, 1), (13, 1), (19, 1), (23, 1), (27, 1), (35, 5)], inTab [], calTab [], altTab [], loopTab [(11, ⟨⟨.normal, [3, 29, 30], [.one .ref, .one (.int .i64), .one (.int .i64)], [], []⟩, [⟨(.exit 1), [3], [.one .ref], [], []⟩], L217_0 N⟩)], natTab [], inTab [4, 5, 7, 8, 9, 12, 13, 14]⟩
theorem l217_0 (N : Nat) : ∀ A, (e217 N).lp (lid (loopAt Tryz.f217 0)) = some A → LoopOk (e217 N) N (loopAt Tryz.f217 0) A :=
  loopOk_of (A := ⟨⟨.normal, [3, 29, 30], [.one .ref, .one (.int .i64), .one (.int .i64)], [], []⟩, [⟨(.exit 1), [3], [.one .ref], [], []⟩], L217_0 N⟩) (by kernel_rfl) (fun _ => rfl) (fun _ _ => by kernel_rfl)
theorem fine217 (N : Nat) : Fine (e217 N) N 217 Tryz.f217 ks217 rs217 (F217 N) :=
  ⟨Tryz.func217, by kernel_rfl, by kernel_rfl, by kernel_rfl, loops_of ⟨l217_0 N, trivial⟩, by kernel_rfl, by kernel_rfl, fun _ => by kernel_rfl⟩
theorem good217 (N : Nat) : Go.L.Good (e217 N) := good_of trivial
theorem gd217 (N : Nat) : CalOk Tryz.prog 217 (.full (mkFun ks217 rs217 (F217 N))) := mkFun_good (fine217 N) (good217 N)

/-! ### 218: code.within -/
def F218 (N : Nat) : Int × Int × H → Option (Bool × H)
 | (a0, a1, h) =>
 (if (decide (a0 ≥ 0)) = true then (
 some ((decide (a0 < a1)), h))
 else (
 some (false, h))).bind fun (b1, h2) =>
 some (b1, h2)
abbrev ks218 : List SK := [.one (.int .i64), .one (.int .i64)]
abbrev rs218 : List SK := [.one .bool]
def e218 (N : Nat) : Env := ⟨Tryz.prog, 12, inTab [], inTab [], natTab [], inTab [], calTab [], altTab [], loopTab [], natTab [], inTab []⟩
theorem fine218 (N : Nat) : Fine (e218 N) N 218 Tryz.f218 ks218 rs218 (F218 N) :=
  ⟨Tryz.func218, by kernel_rfl, by kernel_rfl, by kernel_rfl, loops_of trivial, by kernel_rfl, by kernel_rfl, fun _ => by kernel_rfl⟩
theorem good218 (N : Nat) : Go.L.Good (e218 N) := good_of trivial
theorem gd218 : CalOk Tryz.prog 218 (.pure (mkP ks218 rs218 (F218 100))) := mkP_good (fine218 100) (good218 100) (by kernel_rfl) (by kernel_rfl)

/-! ### 108: code.coded -/
def L108_1 (N : Nat) : Nat → V × Int × Int × V × Int × Int × ByteArray × V × ByteArray × Int × Int × V × H → Option (V × Int × Int × ByteArray × V × ByteArray × Int × Int × V × H)
 | 0, _ => none
 | n + 1, (x45, x46, x47, x48, x49, x50, x51, x52, x53, x54, x55, x56, h57) =>
 (if (decide (x50 < x49)) = true then (
 (sidx x48 x50 1).bind fun q58 =>
 (L.asInt .i64 (rd h57 q58 0)).bind fun x59 =>
 (slen x56).bind fun n60 =>
 (F218 100 (x59, n60, [])).bind fun (x61, _) =>
 (if (!x61) = true then (
 none)
 else (
 L108_1 N n (x45, x46, x47, x48, x49, (IntKind.i64.wrap (x50 + 1)), x51, x52, x53, x54, x55, x56, h57))))
 else (
 some (x45, x46, x47, x51, x52, x53, x54, x55, x56, h57)))
def L108_0 (N : Nat) : Nat → V × Int × Int × ByteArray × V × ByteArray × Int × Int × V × H → Option (H)
 | 0, _ => none
 | n + 1, (x72, x73, x74, x75, x76, x77, x78, x79, x80, h81) =>
 (if (decide (x74 < x73)) = true then (
 (sidx x72 x74 11).bind fun q82 =>
 (L.asInt .i64 (rd h81 q82 0)).bind fun x83 =>
 (L.asInt .i64 (rd h81 q82 1)).bind fun x84 =>
 (L.asInt .i64 (rd h81 q82 2)).bind fun x85 =>
 (L.asInt .i64 (rd h81 q82 3)).bind fun x86 =>
 (L.asInt .i64 (rd h81 q82 4)).bind fun x87 =>
 (L.asCplx .f64 (rd h81 q82 5)).bind fun x88 =>
 (L.asStr (rd h81 q82 6)).bind fun x89 =>
 (L.asInt .i64 (rd h81 q82 7)).bind fun x90 =>
 (L.asInt .i64 (rd h81 q82 8)).bind fun x91 =>
 ((rd h81 q82 9)).bind fun x92 =>
 ((rd h81 q82 10)).bind fun x93 =>
 (F216 N (x75, x76, x77, x78, x79, x80, x83, x84, x85, x86, x87, (x88.1, x88.2), x89, x90, x91, x92, x93, h81)).bind fun (x94, _) =>
 (if (!x94) = true then (
 none)
 else (
 (F217 N (x83, x84, x85, x86, x87, (x88.1, x88.2), x89, x90, x91, x92, x93, h81)).bind fun (x95, h96) =>
 (slen x95).bind fun n97 =>
 (L108_1 N N (x72, x73, x74, x95, n97, 0, x75, x76, x77, x78, x79, x80, h96)).bind fun (x98, x99, x100, x101, x102, x103, x104, x105, x106, h107) =>
 L108_0 N n (x98, x99, (IntKind.i64.wrap (x100 + 1)), x101, x102, x103, x104, x105, x106, h107))))
 else (
 some h81))
def F108 (N : Nat) : ByteArray × V × ByteArray × Int × Int × V × H → Option (Int × Int × H)
 | (a0_0, a0_1, a1_0, a1_1, a1_2, a1_3, h) =>
 (slen a1_3).bind fun n1 =>
 (L108_0 N N (a1_3, n1, 0, a0_0, a0_1, a1_0, a1_1, a1_2, a1_3, h)).bind fun h108 =>
 some (0, 0, h108)
abbrev ks108 : List SK := [.agg [.str, .ref], .agg [.str, (.int .i64), (.int .i64), .ref]]
abbrev rs108 : List SK := [.one (.int .i64), .one (.int .i64)]
def e108 (N : Nat) : Env := ⟨Tryz.prog, 40, inTab [2, 3, 7], inTab [], natTab [(2, 2), (3, 3), (7, 7), (10, 3), (32, 3)], inTab [], calTab [(216, .ro (mkFun ks216 rs216 (F216 N))), (217, .full (mkFun ks217 rs217 (F217 N))), (218, .pure (mkP ks218 rs218 (F218 100)))], altTab [], loopTab [(2, ⟨⟨.normal, [2, 3, 11, 12, 13], [.lp 2 0, .lp 3 0, .one .ref, .one (.int .i64), .one (.int .i64)], [2, 3], [.cells [.str, .ref], .cells [.str, (.int .i64), (.int .i64), .ref]]⟩, [⟨(.exit 0), [], [], [], []⟩], L108_0 N⟩), (7, ⟨⟨.normal, [2, 3, 11, 12, 13, 25, 26, 27], [.lp 2 0, .lp 3 0, .one .ref, .one (.int .i64), .one (.int .i64), .one .ref, .one (.int .i64), .one (.int .i64)], [2, 3], [.cells [.str, .ref], .cells [.str, (.int .i64), (.int .i64), .ref]]⟩, [⟨(.exit 2), [2, 3, 11, 12, 13], [.lp 2 0, .lp 3 0, .one .ref, .one (.int .i64), .one (.int .i64)], [2, 3], [.cells [.str, .ref], .cells [.str, (.int .i64), (.int .i64), .ref]]⟩], L108_1 N⟩)], natTab [], inTab [5, 10]⟩
theorem l108_0 (N : Nat) : ∀ A, (e108 N).lp (lid (loopAt Tryz.f108 0)) = some A → LoopOk (e108 N) N (loopAt Tryz.f108 0) A :=
  loopOk_of (A := ⟨⟨.normal, [2, 3, 11, 12, 13], [.lp 2 0, .lp 3 0, .one .ref, .one (.int .i64), .one (.int .i64)], [2, 3], [.cells [.str, .ref], .cells [.str, (.int .i64), (.int .i64), .ref]]⟩, [⟨(.exit 0), [], [], [], []⟩], L108_0 N⟩) (by kernel_rfl) (fun _ => rfl) (fun _ _ => by kernel_rfl)
theorem l108_1 (N : Nat) : ∀ A, (e108 N).lp (lid (loopAt Tryz.f108 1)) = some A → LoopOk (e108 N) N (loopAt Tryz.f108 1) A :=
  loopOk_of (A := ⟨⟨.normal, [2, 3, 11, 12, 13, 25, 26, 27], [.lp 2 0, .lp 3 0, .one .ref, .one (.int .i64), .one (.int .i64), .one .ref, .one (.int .i64), .one (.int .i64)], [2, 3], [.cells [.str, .ref], .cells [.str, (.int .i64), (.int .i64), .ref]]⟩, [⟨(.exit 2), [2, 3, 11, 12, 13], [.lp 2 0, .lp 3 0, .one .ref, .one (.int .i64), .one (.int .i64)], [2, 3], [.cells [.str, .ref], .cells [.str, (.int .i64), (.int .i64), .ref]]⟩], L108_1 N⟩) (by kernel_rfl) (fun _ => rfl) (fun _ _ => by kernel_rfl)
theorem fine108 (N : Nat) : Fine (e108 N) N 108 Tryz.f108 ks108 rs108 (F108 N) :=
  ⟨Tryz.func108, by kernel_rfl, by kernel_rfl, by kernel_rfl, loops_of ⟨l108_0 N, ⟨l108_1 N, trivial⟩⟩, by kernel_rfl, by kernel_rfl, fun _ => by kernel_rfl⟩
theorem good108 (N : Nat) : Go.L.Good (e108 N) := good_of ⟨gd216 N, ⟨gd217 N, ⟨gd218, trivial⟩⟩⟩
theorem gd108 (N : Nat) : CalOk Tryz.prog 108 (.full (mkFun ks108 rs108 (F108 N))) := mkFun_good (fine108 N) (good108 N)

/-! ### 219: code.Effect -/
def F219 (N : Nat) : ByteArray × V × Int × Int × Int × Int × Int × (Nat × Nat) × ByteArray × Int × Int × V × V × H → Option (Int × Int × Int × H)
 | (a0_0, a0_1, a1_0, a1_1, a1_2, a1_3, a1_4, a1_5, a1_6, a1_7, a1_8, a1_9, a1_10, h) =>
 (F315 100 (a1_0, [])).bind fun (x1, _) =>
 (if (!x1) = true then (
 none)
 else (
 ((if (a1_0 == 3) = true then (
 some (a1_0, (a1_0 == 3), h))
 else (
 (if (a1_0 == 18) = true then (
 some (a1_0, (a1_0 == 18), h))
 else (
 some (a1_0, (a1_0 == 19), h))))) : Option (Int × Bool × H)).bind fun (x2, x3, h4) =>
 (if x3 = true then (
 none)
 else (
 ((if (x2 == 28) = true then (
 some (x2, (x2 == 28), h4))
 else (
 some (x2, (x2 == 34), h4))) : Option (Int × Bool × H)).bind fun (x5, x6, h7) =>
 (if x6 = true then (
 none)
 else (
 ((if (x5 == 1) = true then (
 some (x5, (x5 == 1), h7))
 else (
 (if (x5 == 4) = true then (
 some (x5, (x5 == 4), h7))
 else (
 (if (x5 == 30) = true then (
 some (x5, (x5 == 30), h7))
 else (
 some (x5, (x5 == 31), h7))))))) : Option (Int × Bool × H)).bind fun (x8, x9, h10) =>
 (if x9 = true then (
 none)
 else (
 (if (x8 == 25) = true then (
 (if (x8 == 25) = true then (
 some (0, 0, 0, h10))
 else (
 none)))
 else (
 none))))))))))
abbrev ks219 : List SK := [.agg [.str, .ref], .agg [(.int .i64), (.int .i64), (.int .i64), (.int .i64), (.int .i64), (.cplx .f64), .str, (.int .i64), (.int .i64), .ref, .ref]]
abbrev rs219 : List SK := [.one (.int .i64), .one (.int .i64), .one (.int .i64)]
def e219 (N : Nat) : Env := ⟨Tryz.prog, 98, inTab [2, 3], inTab [], natTab [(2, 2), (3, 3), (7, 3), (11, 3), (17, 3), (21, 3), (25, 3), (28, 3), (31, 3), (34, 3), (39, 3), (43, 3), (45, 2), (51, 2), (53, 3), (60, 2), (62, 3)], inTab [], calTab [(315, .pure (mkP ks315 rs315 (F315 100)))], altTab [(1342177293, [⟨.normal, [12, 13], [.one (.int .i64), .one .bool], [], []⟩]), (3489660964, [⟨.normal, [12, 36], [.one (.int .i64), .one .bool], [], []⟩]), (4831838275, [⟨.normal, [12, 67], [.one (.int .i64), .one .bool], [], []⟩])], loopTab [], natTab [], inTab [2, 7, 8, 9, 10, 11, 14, 15, 16, 21, 23, 24, 26, 27, 28, 29, 30, 31, 32, 33, 34, 35, 36, 37, 38, 39, 40, 41, 42, 43, 44, 45, 46, 47, 48]⟩
theorem fine219 (N : Nat) : Fine (e219 N) N 219 Tryz.f219 ks219 rs219 (F219 N) :=
  ⟨Tryz.func219, by kernel_rfl, by kernel_rfl, by kernel_rfl, loops_of trivial, by kernel_rfl, by kernel_rfl, fun _ => by kernel_rfl⟩
theorem good219 (N : Nat) : Go.L.Good (e219 N) := good_of ⟨gd315, trivial⟩
theorem gd219 (N : Nat) : CalOk Tryz.prog 219 (.ro (mkFun ks219 rs219 (F219 N))) := mkFun_ro (fine219 N) (good219 N) (by kernel_rfl)

/-! ### 220: code.leads -/
def F220 (N : Nat) : Int × Int × Int × Int × Int × (Nat × Nat) × ByteArray × Int × Int × V × V × Int × H → Option (V × H)
 | (a0_0, a0_1, a0_2, a0_3, a0_4, a0_5, a0_6, a0_7, a0_8, a0_9, a0_10, a1, h) =>
 (if (a0_0 == 25) = true then (
 (if (a0_0 == 25) = true then (
 (F217 N (a0_0, a0_1, a0_2, a0_3, a0_4, (a0_5.1, a0_5.2), a0_6, a0_7, a0_8, a0_9, a0_10, h)).bind fun (x1, h2) =>
 (scells h2 x1 1).bind fun cs5 =>
 (happ h2 .nils 1 (snlen x1) cs5).bind fun (v3, h4) =>
 some (v3, h4))
 else (
 none)))
 else (
 none))
abbrev ks220 : List SK := [.agg [(.int .i64), (.int .i64), (.int .i64), (.int .i64), (.int .i64), (.cplx .f64), .str, (.int .i64), (.int .i64), .ref, .ref], .one (.int .i64)]
abbrev rs220 : List SK := [.one .ref]
def e220 (N : Nat) : Env := ⟨Tryz.prog, 23, inTab [2, 11], inTab [], natTab [(2, 2), (6, 2)], inTab [], calTab [(217, .full (mkFun ks217 rs217 (F217 N)))], altTab [], loopTab [], natTab [], inTab [3, 5, 6, 7, 8]⟩
theorem fine220 (N : Nat) : Fine (e220 N) N 220 Tryz.f220 ks220 rs220 (F220 N) :=
  ⟨Tryz.func220, by kernel_rfl, by kernel_rfl, by kernel_rfl, loops_of trivial, by kernel_rfl, by kernel_rfl, fun _ => by kernel_rfl⟩
theorem good220 (N : Nat) : Go.L.Good (e220 N) := good_of ⟨gd217 N, trivial⟩
theorem gd220 (N : Nat) : CalOk Tryz.prog 220 (.full (mkFun ks220 rs220 (F220 N))) := mkFun_good (fine220 N) (good220 N)

/-! ### 109: code.heights -/
def L109_0 (N : Nat) : Nat → V × V × Int × Int × ByteArray × V × ByteArray × Int × Int × V × H → Option (V × V × ByteArray × V × ByteArray × Int × Int × V × H)
 | 0, _ => none
 | n + 1, (x19, x20, x21, x22, x23, x24, x25, x26, x27, x28, h29) =>
 (if (decide (x22 < x21)) = true then (
 (sidx x19 x22 1).bind fun q30 =>
 (wr h29 q30 [(.int .i64 (-1))]).bind fun h31 =>
 L109_0 N n (x19, x20, x21, (IntKind.i64.wrap (x22 + 1)), x23, x24, x25, x26, x27, x28, h31))
 else (
 some (x19, x20, x23, x24, x25, x26, x27, x28, h29)))
def L109_1 (N : Nat) : Nat → V × V × Int × ByteArray × V × ByteArray × Int × Int × V × H → Option (V × V × Int × ByteArray × V × ByteArray × Int × Int × V × H)
 | 0, _ => none
 | n + 1, (x62, x63, x64, x65, x66, x67, x68, x69, x70, h71) =>
 (slen x62).bind fun n72 =>
 (if (decide (x64 < n72)) = true then (
 (sidx x62 x64 1).bind fun q75 =>
 (L.asInt .i64 (rd h71 q75 0)).bind fun x76 =>
 (if (decide (x76 < 0)) = true then (
 some (true, h71))
 else (
 (sidx x63 x64 1).bind fun q79 =>
 (L.asBool (rd h71 q79 0)).bind fun x80 =>
 some (x80, h71))).bind fun (b77, h78) =>
 some (b77, h78))
 else (
 some (false, h71))).bind fun (b73, h74) =>
 (if b73 = true then (
 L109_1 N n (x62, x63, (IntKind.i64.wrap (x64 + 1)), x65, x66, x67, x68, x69, x70, h74))
 else (
 some (x62, x63, x64, x65, x66, x67, x68, x69, x70, h74)))
def L109_2 (N : Nat) : Nat → V × V × Int × Int × V × Int × Int × ByteArray × V × ByteArray × Int × Int × V × H → Option (V × V × Int × ByteArray × V × ByteArray × Int × Int × V × H)
 | 0, _ => none
 | n + 1, (x151, x152, x153, x154, x155, x156, x157, x158, x159, x160, x161, x162, x163, h164) =>
 (if (decide (x157 < x156)) = true then (
 (sidx x155 x157 1).bind fun q165 =>
 (L.asInt .i64 (rd h164 q165 0)).bind fun x166 =>
 (slen x151).bind fun n167 =>
 (if (x166 == n167) = true then (
 none)
 else (
 (sidx x151 x166 1).bind fun q168 =>
 (L.asInt .i64 (rd h164 q168 0)).bind fun x169 =>
 (if (decide (x169 < 0)) = true then (
 none)
 else (
 (sidx x151 x166 1).bind fun q170 =>
 (L.asInt .i64 (rd h164 q170 0)).bind fun x171 =>
 (if (x171 != x153) = true then (
 none)
 else (
 L109_2 N n (x151, x152, x153, x154, x155, x156, (IntKind.i64.wrap (x157 + 1)), x158, x159, x160, x161, x162, x163, h164))))))))
 else (
 some (x151, x152, x154, x158, x159, x160, x161, x162, x163, h164)))
def L109_3 (N : Nat) : Nat → V × V × Int × ByteArray × V × ByteArray × Int × Int × V × H → Option (V × Int × Int × H)
 | 0, _ => none
 | n + 1, (x251, x252, x253, x254, x255, x256, x257, x258, x259, h260) =>
 (L109_1 N N (x251, x252, x253, x254, x255, x256, x257, x258, x259, h260)).bind fun (x261, x262, x263, x264, x265, x266, x267, x268, x269, h270) =>
 (slen x261).bind fun n271 =>
 (if (x263 == n271) = true then (
 some (x261, 0, 0, h270))
 else (
 (sidx x262 x263 1).bind fun q272 =>
 (wr h270 q272 [(.bool true)]).bind fun h273 =>
 (sidx x269 x263 11).bind fun q274 =>
 (L.asInt .i64 (rd h273 q274 0)).bind fun x275 =>
 (L.asInt .i64 (rd h273 q274 1)).bind fun x276 =>
 (L.asInt .i64 (rd h273 q274 2)).bind fun x277 =>
 (L.asInt .i64 (rd h273 q274 3)).bind fun x278 =>
 (L.asInt .i64 (rd h273 q274 4)).bind fun x279 =>
 (L.asCplx .f64 (rd h273 q274 5)).bind fun x280 =>
 (L.asStr (rd h273 q274 6)).bind fun x281 =>
 (L.asInt .i64 (rd h273 q274 7)).bind fun x282 =>
 (L.asInt .i64 (rd h273 q274 8)).bind fun x283 =>
 ((rd h273 q274 9)).bind fun x284 =>
 ((rd h273 q274 10)).bind fun x285 =>
 (F219 N (x264, x265, x275, x276, x277, x278, x279, (x280.1, x280.2), x281, x282, x283, x284, x285, h273)).bind fun (x286, x287, x288, _) =>
 (sidx x261 x263 1).bind fun q289 =>
 (L.asInt .i64 (rd h273 q289 0)).bind fun x290 =>
 (sidx x261 x263 1).bind fun q291 =>
 (L.asInt .i64 (rd h273 q291 0)).bind fun x292 =>
 (if (decide (x286 > x292)) = true then (
 some (true, h273))
 else (
 some ((decide ((IntKind.i64.wrap ((IntKind.i64.wrap (x290 - x286)) + x287)) > 256)), h273))).bind fun (b293, h294) =>
 (if b293 = true then (
 none)
 else (
 (sidx x269 x263 11).bind fun q295 =>
 (L.asInt .i64 (rd h294 q295 0)).bind fun x296 =>
 (L.asInt .i64 (rd h294 q295 1)).bind fun x297 =>
 (L.asInt .i64 (rd h294 q295 2)).bind fun x298 =>
 (L.asInt .i64 (rd h294 q295 3)).bind fun x299 =>
 (L.asInt .i64 (rd h294 q295 4)).bind fun x300 =>
 (L.asCplx .f64 (rd h294 q295 5)).bind fun x301 =>
 (L.asStr (rd h294 q295 6)).bind fun x302 =>
 (L.asInt .i64 (rd h294 q295 7)).bind fun x303 =>
 (L.asInt .i64 (rd h294 q295 8)).bind fun x304 =>
 ((rd h294 q295 9)).bind fun x305 =>
 ((rd h294 q295 10)).bind fun x306 =>
 (F220 N (x296, x297, x298, x299, x300, (x301.1, x301.2), x302, x303, x304, x305, x306, x263, h294)).bind fun (x307, h308) =>
 (slen x307).bind fun n309 =>
 (L109_2 N N (x261, x262, (IntKind.i64.wrap ((IntKind.i64.wrap (x290 - x286)) + x287)), x263, x307, n309, 0, x264, x265, x266, x267, x268, x269, h308)).bind fun (x310, x311, x312, x313, x314, x315, x316, x317, x318, h319) =>
 L109_3 N n (x310, x311, x312, x313, x314, x315, x316, x317, x318, h319)))))
def F109 (N : Nat) : ByteArray × V × ByteArray × Int × Int × V × H → Option (V × Int × Int × H)
 | (a0_0, a0_1, a1_0, a1_1, a1_2, a1_3, h) =>
 (slen a1_3).bind fun n1 =>
 (if 0 ≤ n1 then (if n1 ≤ n1 then (if n1 * ((1 : Nat) : Int) ≤ ((mostCells : Nat) : Int) then (
 (some (h ++ [O.cells 0 (repeatC (Int.toNat n1) [(.int .i64 0)])]) : Option H).bind fun h2 =>
 (slen a1_3).bind fun n3 =>
 (if 0 ≤ n3 then (if n3 ≤ n3 then (if n3 * ((1 : Nat) : Int) ≤ ((mostCells : Nat) : Int) then (
 (some (h2 ++ [O.cells 0 (repeatC (Int.toNat n3) [(.bool false)])]) : Option H).bind fun h4 =>
 (slen (.sl (h).length 0 0 (Int.toNat n1) 1 (some (Int.toNat n1)))).bind fun n5 =>
 (L109_0 N N ((.sl (h).length 0 0 (Int.toNat n1) 1 (some (Int.toNat n1))), (.sl (h2).length 0 0 (Int.toNat n3) 1 (some (Int.toNat n3))), n5, 0, a0_0, a0_1, a1_0, a1_1, a1_2, a1_3, h4)).bind fun (x32, x33, x34, x35, x36, x37, x38, x39, h40) =>
 (sidx x32 0 1).bind fun q41 =>
 (wr h40 q41 [(.int .i64 0)]).bind fun h42 =>
 (L109_1 N N (x32, x33, 0, x34, x35, x36, x37, x38, x39, h42)).bind fun (x81, x82, x83, x84, x85, x86, x87, x88, x89, h90) =>
 (slen x81).bind fun n91 =>
 (if (x83 == n91) = true then (
 some (x81, 0, 0, h90))
 else (
 (sidx x82 x83 1).bind fun q92 =>
 (wr h90 q92 [(.bool true)]).bind fun h93 =>
 (sidx x89 x83 11).bind fun q94 =>
 (L.asInt .i64 (rd h93 q94 0)).bind fun x95 =>
 (L.asInt .i64 (rd h93 q94 1)).bind fun x96 =>
 (L.asInt .i64 (rd h93 q94 2)).bind fun x97 =>
 (L.asInt .i64 (rd h93 q94 3)).bind fun x98 =>
 (L.asInt .i64 (rd h93 q94 4)).bind fun x99 =>
 (L.asCplx .f64 (rd h93 q94 5)).bind fun x100 =>
 (L.asStr (rd h93 q94 6)).bind fun x101 =>
 (L.asInt .i64 (rd h93 q94 7)).bind fun x102 =>
 (L.asInt .i64 (rd h93 q94 8)).bind fun x103 =>
 ((rd h93 q94 9)).bind fun x104 =>
 ((rd h93 q94 10)).bind fun x105 =>
 (F219 N (x84, x85, x95, x96, x97, x98, x99, (x100.1, x100.2), x101, x102, x103, x104, x105, h93)).bind fun (x106, x107, x108, _) =>
 (sidx x81 x83 1).bind fun q109 =>
 (L.asInt .i64 (rd h93 q109 0)).bind fun x110 =>
 (sidx x81 x83 1).bind fun q111 =>
 (L.asInt .i64 (rd h93 q111 0)).bind fun x112 =>
 (if (decide (x106 > x112)) = true then (
 some (true, h93))
 else (
 some ((decide ((IntKind.i64.wrap ((IntKind.i64.wrap (x110 - x106)) + x107)) > 256)), h93))).bind fun (b113, h114) =>
 (if b113 = true then (
 none)
 else (
 (sidx x89 x83 11).bind fun q115 =>
 (L.asInt .i64 (rd h114 q115 0)).bind fun x116 =>
 (L.asInt .i64 (rd h114 q115 1)).bind fun x117 =>
 (L.asInt .i64 (rd h114 q115 2)).bind fun x118 =>
 (L.asInt .i64 (rd h114 q115 3)).bind fun x119 =>
 (L.asInt .i64 (rd h114 q115 4)).bind fun x120 =>
 (L.asCplx .f64 (rd h114 q115 5)).bind fun x121 =>
 (L.asStr (rd h114 q115 6)).bind fun x122 =>
 (L.asInt .i64 (rd h114 q115 7)).bind fun x123 =>
 (L.asInt .i64 (rd h114 q115 8)).bind fun x124 =>
 ((rd h114 q115 9)).bind fun x125 =>
 ((rd h114 q115 10)).bind fun x126 =>
 (F220 N (x116, x117, x118, x119, x120, (x121.1, x121.2), x122, x123, x124, x125, x126, x83, h114)).bind fun (x127, h128) =>
 (slen x127).bind fun n129 =>
 (L109_2 N N (x81, x82, (IntKind.i64.wrap ((IntKind.i64.wrap (x110 - x106)) + x107)), x83, x127, n129, 0, x84, x85, x86, x87, x88, x89, h128)).bind fun (x172, x173, x174, x175, x176, x177, x178, x179, x180, h181) =>
 (L109_3 N N (x172, x173, x174, x175, x176, x177, x178, x179, x180, h181)).bind fun (x320, x321, x322, h323) =>
 some (x320, x321, x322, h323)))))) else none) else none) else none)) else none) else none) else none)
abbrev ks109 : List SK := [.agg [.str, .ref], .agg [.str, (.int .i64), (.int .i64), .ref]]
abbrev rs109 : List SK := [.one .ref, .one (.int .i64), .one (.int .i64)]
def e109 (N : Nat) : Env := ⟨Tryz.prog, 136, inTab [2, 3], inTab [], natTab [(2, 2), (3, 3), (18, 3), (22, 3), (66, 3), (95, 3)], inTab [], calTab [(219, .ro (mkFun ks219 rs219 (F219 N))), (220, .full (mkFun ks220 rs220 (F220 N)))], altTab [], loopTab [(4, ⟨⟨.normal, [2, 3, 7, 8, 27, 28], [.lp 2 0, .lp 3 0, .one .ref, .one .ref, .one (.int .i64), .one (.int .i64)], [2, 3], [.cells [.str, .ref], .cells [.str, (.int .i64), (.int .i64), .ref]]⟩, [⟨(.exit 0), [2, 3, 7, 8], [.lp 2 0, .lp 3 0, .one .ref, .one .ref], [2, 3], [.cells [.str, .ref], .cells [.str, (.int .i64), (.int .i64), .ref]]⟩], L109_0 N⟩), (10, ⟨⟨.normal, [2, 3, 7, 8, 10], [.lp 2 0, .lp 3 0, .one .ref, .one .ref, .one (.int .i64)], [2, 3], [.cells [.str, .ref], .cells [.str, (.int .i64), (.int .i64), .ref]]⟩, [⟨(.exit 2), [2, 3, 7, 8, 10], [.lp 2 0, .lp 3 0, .one .ref, .one .ref, .one (.int .i64)], [2, 3], [.cells [.str, .ref], .cells [.str, (.int .i64), (.int .i64), .ref]]⟩], L109_1 N⟩), (21, ⟨⟨.normal, [2, 3, 7, 8, 14, 15, 101, 102, 103], [.lp 2 0, .lp 3 0, .one .ref, .one .ref, .one (.int .i64), .one (.int .i64), .one .ref, .one (.int .i64), .one (.int .i64)], [2, 3], [.cells [.str, .ref], .cells [.str, (.int .i64), (.int .i64), .ref]]⟩, [⟨(.exit 4), [2, 3, 7, 8, 15], [.lp 2 0, .lp 3 0, .one .ref, .one .ref, .one (.int .i64)], [2, 3], [.cells [.str, .ref], .cells [.str, (.int .i64), (.int .i64), .ref]]⟩], L109_2 N⟩), (1000000, ⟨⟨.normal, [2, 3, 7, 8, 10], [.lp 2 0, .lp 3 0, .one .ref, .one .ref, .one (.int .i64)], [2, 3], [.cells [.str, .ref], .cells [.str, (.int .i64), (.int .i64), .ref]]⟩, [⟨.ret, [4, 5, 6], [.one .ref, .one (.int .i64), .one (.int .i64)], [], []⟩], L109_3 N⟩)], natTab [], inTab [18, 24, 26, 27, 29]⟩
theorem l109_0 (N : Nat) : ∀ A, (e109 N).lp (lid (loopAt Tryz.f109 1)) = some A → LoopOk (e109 N) N (loopAt Tryz.f109 1) A :=
  loopOk_of (A := ⟨⟨.normal, [2, 3, 7, 8, 27, 28], [.lp 2 0, .lp 3 0, .one .ref, .one .ref, .one (.int .i64), .one (.int .i64)], [2, 3], [.cells [.str, .ref], .cells [.str, (.int .i64), (.int .i64), .ref]]⟩, [⟨(.exit 0), [2, 3, 7, 8], [.lp 2 0, .lp 3 0, .one .ref, .one .ref], [2, 3], [.cells [.str, .ref], .cells [.str, (.int .i64), (.int .i64), .ref]]⟩], L109_0 N⟩) (by kernel_rfl) (fun _ => rfl) (fun _ _ => by kernel_rfl)
theorem l109_1 (N : Nat) : ∀ A, (e109 N).lp (lid (loopAt Tryz.f109 2)) = some A → LoopOk (e109 N) N (loopAt Tryz.f109 2) A :=
  loopOk_of (A := ⟨⟨.normal, [2, 3, 7, 8, 10], [.lp 2 0, .lp 3 0, .one .ref, .one .ref, .one (.int .i64)], [2, 3], [.cells [.str, .ref], .cells [.str, (.int .i64), (.int .i64), .ref]]⟩, [⟨(.exit 2), [2, 3, 7, 8, 10], [.lp 2 0, .lp 3 0, .one .ref, .one .ref, .one (.int .i64)], [2, 3], [.cells [.str, .ref], .cells [.str, (.int .i64), (.int .i64), .ref]]⟩], L109_1 N⟩) (by kernel_rfl) (fun _ => rfl) (fun _ _ => by kernel_rfl)
theorem l109_2 (N : Nat) : ∀ A, (e109 N).lp (lid (loopAt Tryz.f109 3)) = some A → LoopOk (e109 N) N (loopAt Tryz.f109 3) A :=
  loopOk_of (A := ⟨⟨.normal, [2, 3, 7, 8, 14, 15, 101, 102, 103], [.lp 2 0, .lp 3 0, .one .ref, .one .ref, .one (.int .i64), .one (.int .i64), .one .ref, .one (.int .i64), .one (.int .i64)], [2, 3], [.cells [.str, .ref], .cells [.str, (.int .i64), (.int .i64), .ref]]⟩, [⟨(.exit 4), [2, 3, 7, 8, 15], [.lp 2 0, .lp 3 0, .one .ref, .one .ref, .one (.int .i64)], [2, 3], [.cells [.str, .ref], .cells [.str, (.int .i64), (.int .i64), .ref]]⟩], L109_2 N⟩) (by kernel_rfl) (fun _ => rfl) (fun _ _ => by kernel_rfl)
theorem l109_3 (N : Nat) : ∀ A, (e109 N).lp (lbKey 0) = some A → LabelOk (e109 N) N 0 (loopAt Tryz.f109 0) A :=
  labelOk_of (A := ⟨⟨.normal, [2, 3, 7, 8, 10], [.lp 2 0, .lp 3 0, .one .ref, .one .ref, .one (.int .i64)], [2, 3], [.cells [.str, .ref], .cells [.str, (.int .i64), (.int .i64), .ref]]⟩, [⟨.ret, [4, 5, 6], [.one .ref, .one (.int .i64), .one (.int .i64)], [], []⟩], L109_3 N⟩) (by kernel_rfl) (fun _ => rfl) (fun _ _ => by kernel_rfl)
theorem fine109 (N : Nat) : Fine (e109 N) N 109 Tryz.f109 ks109 rs109 (F109 N) :=
  ⟨Tryz.func109, by kernel_rfl, by kernel_rfl, by kernel_rfl, loops_of ⟨l109_3 N, ⟨l109_0 N, ⟨l109_1 N, ⟨l109_2 N, trivial⟩⟩⟩⟩, by kernel_rfl, by kernel_rfl, fun _ => by kernel_rfl⟩
theorem good109 (N : Nat) : Go.L.Good (e109 N) := good_of ⟨gd219 N, ⟨gd220 N, trivial⟩⟩
theorem gd109 (N : Nat) : CalOk Tryz.prog 109 (.full (mkFun ks109 rs109 (F109 N))) := mkFun_good (fine109 N) (good109 N)

/-! ### 36: code.Check -/
def L36_0 (N : Nat) : Nat → Int × Int × ByteArray × V × H → Option (ByteArray × V × H)
 | 0, _ => none
 | n + 1, (x17, x18, x19, x20, h21) =>
 (if (decide (x18 < x17)) = true then (
 (F107 N (x19, x20, x18, h21)).bind fun (x22, h23) =>
 (if (!x22) = true then (
 none)
 else (
 L36_0 N n (x17, (IntKind.i64.wrap (x18 + 1)), x19, x20, h23))))
 else (
 some (x19, x20, h21)))
def L36_1 (N : Nat) : Nat → V × Int × Int × ByteArray × V × H → Option (ByteArray × V × H)
 | 0, _ => none
 | n + 1, (x42, x43, x44, x45, x46, h47) =>
 (if (decide (x44 < x43)) = true then (
 (sidx x42 x44 4).bind fun q48 =>
 (L.asStr (rd h47 q48 0)).bind fun x49 =>
 (L.asInt .i64 (rd h47 q48 1)).bind fun x50 =>
 (L.asInt .i64 (rd h47 q48 2)).bind fun x51 =>
 ((rd h47 q48 3)).bind fun x52 =>
 (F108 N (x45, x46, x49, x50, x51, x52, h47)).bind fun (x53, x54, h55) =>
 (if (x53 != 0) = true then (
 none)
 else (
 L36_1 N n (x42, x43, (IntKind.i64.wrap (x44 + 1)), x45, x46, h55))))
 else (
 some (x45, x46, h47)))
def L36_2 (N : Nat) : Nat → V × Int × Int × ByteArray × V × H → Option (H)
 | 0, _ => none
 | n + 1, (x75, x76, x77, x78, x79, h80) =>
 (if (decide (x77 < x76)) = true then (
 (sidx x75 x77 4).bind fun q81 =>
 (L.asStr (rd h80 q81 0)).bind fun x82 =>
 (L.asInt .i64 (rd h80 q81 1)).bind fun x83 =>
 (L.asInt .i64 (rd h80 q81 2)).bind fun x84 =>
 ((rd h80 q81 3)).bind fun x85 =>
 (F109 N (x78, x79, x82, x83, x84, x85, h80)).bind fun (x86, x87, x88, h89) =>
 (if (x87 != 0) = true then (
 none)
 else (
 L36_2 N n (x75, x76, (IntKind.i64.wrap (x77 + 1)), x78, x79, h89))))
 else (
 some h80))
def F36 (N : Nat) : ByteArray × V × H → Option (Int × Int × Int × H)
 | (a0_0, a0_1, h) =>
 (F106 N (a0_0, h)).bind fun (x1, h2) =>
 (if (!x1) = true then (
 some (true, h2))
 else (
 (slen a0_1).bind fun n5 =>
 some ((decide (n5 < 1)), h2))).bind fun (b3, h4) =>
 (if b3 = true then (
 some (true, h4))
 else (
 (slen a0_1).bind fun n8 =>
 some ((decide (n8 > 64)), h4))).bind fun (b6, h7) =>
 (if b6 = true then (
 none)
 else (
 (slen a0_1).bind fun n9 =>
 (L36_0 N N (n9, 0, a0_0, a0_1, h7)).bind fun (x24, x25, h26) =>
 (slen x25).bind fun n27 =>
 (L36_1 N N (x25, n27, 0, x24, x25, h26)).bind fun (x56, x57, h58) =>
 (slen x57).bind fun n59 =>
 (L36_2 N N (x57, n59, 0, x56, x57, h58)).bind fun h90 =>
 some (0, 0, 0, h90)))
abbrev ks36 : List SK := [.agg [.str, .ref]]
abbrev rs36 : List SK := [.one (.int .i64), .one (.int .i64), .one (.int .i64)]
def e36 (N : Nat) : Env := ⟨Tryz.prog, 84, inTab [1, 7, 11], inTab [], natTab [(1, 1), (7, 7), (11, 11), (15, 1), (20, 1), (26, 1), (31, 1), (43, 1), (63, 1)], inTab [], calTab [(106, .full (mkFun ks106 rs106 (F106 N))), (107, .full (mkFun ks107 rs107 (F107 N))), (108, .full (mkFun ks108 rs108 (F108 N))), (109, .full (mkFun ks109 rs109 (F109 N)))], altTab [], loopTab [(4, ⟨⟨.normal, [1, 33, 34], [.lp 1 0, .one (.int .i64), .one (.int .i64)], [1], [.cells [.str, .ref]]⟩, [⟨(.exit 0), [1], [.lp 1 0], [1], [.cells [.str, .ref]]⟩], L36_0 N⟩), (10, ⟨⟨.normal, [1, 44, 45, 46], [.lp 1 0, .one .ref, .one (.int .i64), .one (.int .i64)], [1], [.cells [.str, .ref]]⟩, [⟨(.exit 2), [1], [.lp 1 0], [1], [.cells [.str, .ref]]⟩], L36_1 N⟩), (17, ⟨⟨.normal, [1, 64, 65, 66], [.lp 1 0, .one .ref, .one (.int .i64), .one (.int .i64)], [1], [.cells [.str, .ref]]⟩, [⟨(.exit 4), [], [], [], []⟩], L36_2 N⟩)], natTab [], inTab [2, 7, 14, 21]⟩
theorem l36_0 (N : Nat) : ∀ A, (e36 N).lp (lid (loopAt Tryz.f36 0)) = some A → LoopOk (e36 N) N (loopAt Tryz.f36 0) A :=
  loopOk_of (A := ⟨⟨.normal, [1, 33, 34], [.lp 1 0, .one (.int .i64), .one (.int .i64)], [1], [.cells [.str, .ref]]⟩, [⟨(.exit 0), [1], [.lp 1 0], [1], [.cells [.str, .ref]]⟩], L36_0 N⟩) (by kernel_rfl) (fun _ => rfl) (fun _ _ => by kernel_rfl)
theorem l36_1 (N : Nat) : ∀ A, (e36 N).lp (lid (loopAt Tryz.f36 1)) = some A → LoopOk (e36 N) N (loopAt Tryz.f36 1) A :=
  loopOk_of (A := ⟨⟨.normal, [1, 44, 45, 46], [.lp 1 0, .one .ref, .one (.int .i64), .one (.int .i64)], [1], [.cells [.str, .ref]]⟩, [⟨(.exit 2), [1], [.lp 1 0], [1], [.cells [.str, .ref]]⟩], L36_1 N⟩) (by kernel_rfl) (fun _ => rfl) (fun _ _ => by kernel_rfl)
theorem l36_2 (N : Nat) : ∀ A, (e36 N).lp (lid (loopAt Tryz.f36 2)) = some A → LoopOk (e36 N) N (loopAt Tryz.f36 2) A :=
  loopOk_of (A := ⟨⟨.normal, [1, 64, 65, 66], [.lp 1 0, .one .ref, .one (.int .i64), .one (.int .i64)], [1], [.cells [.str, .ref]]⟩, [⟨(.exit 4), [], [], [], []⟩], L36_2 N⟩) (by kernel_rfl) (fun _ => rfl) (fun _ _ => by kernel_rfl)
theorem fine36 (N : Nat) : Fine (e36 N) N 36 Tryz.f36 ks36 rs36 (F36 N) :=
  ⟨Tryz.func36, by kernel_rfl, by kernel_rfl, by kernel_rfl, loops_of ⟨l36_0 N, ⟨l36_1 N, ⟨l36_2 N, trivial⟩⟩⟩, by kernel_rfl, by kernel_rfl, fun _ => by kernel_rfl⟩
theorem good36 (N : Nat) : Go.L.Good (e36 N) := good_of ⟨gd106 N, ⟨gd107 N, ⟨gd108 N, ⟨gd109 N, trivial⟩⟩⟩⟩
theorem gd36 (N : Nat) : CalOk Tryz.prog 36 (.full (mkFun ks36 rs36 (F36 N))) := mkFun_good (fine36 N) (good36 N)

/-! ### 110: api.Func] -/
def F110 (N : Nat) : V × H → Option (V × H)
 | (a0, h) =>
 (isNilS a0).bind fun b1 =>
 (if b1 = true then (
 none)
 else (
 (some (h ++ [O.cells 0 []]) : Option H).bind fun h2 =>
 (scells h2 a0 4).bind fun cs5 =>
 (happ h2 (.sl (h).length 0 0 0 4 (some 0)) 4 (snlen a0) cs5).bind fun (v3, h4) =>
 some (v3, h4)))
abbrev ks110 : List SK := [.one .ref]
abbrev rs110 : List SK := [.one .ref]
def e110 (N : Nat) : Env := ⟨Tryz.prog, 8, inTab [], inTab [], natTab [], inTab [], calTab [], altTab [], loopTab [], natTab [], inTab [2]⟩
theorem fine110 (N : Nat) : Fine (e110 N) N 110 Tryz.f110 ks110 rs110 (F110 N) :=
  ⟨Tryz.func110, by kernel_rfl, by kernel_rfl, by kernel_rfl, loops_of trivial, by kernel_rfl, by kernel_rfl, fun _ => by kernel_rfl⟩
theorem good110 (N : Nat) : Go.L.Good (e110 N) := good_of trivial
theorem gd110 (N : Nat) : CalOk Tryz.prog 110 (.full (mkFun ks110 rs110 (F110 N))) := mkFun_good (fine110 N) (good110 N)

/-! ### 111: api.Instr] -/
def F111 (N : Nat) : V × H → Option (V × H)
 | (a0, h) =>
 (isNilS a0).bind fun b1 =>
 (if b1 = true then (
 none)
 else (
 (some (h ++ [O.cells 0 []]) : Option H).bind fun h2 =>
 (scells h2 a0 11).bind fun cs5 =>
 (happ h2 (.sl (h).length 0 0 0 11 (some 0)) 11 (snlen a0) cs5).bind fun (v3, h4) =>
 some (v3, h4)))
abbrev ks111 : List SK := [.one .ref]
abbrev rs111 : List SK := [.one .ref]
def e111 (N : Nat) : Env := ⟨Tryz.prog, 8, inTab [], inTab [], natTab [], inTab [], calTab [], altTab [], loopTab [], natTab [], inTab [2]⟩
theorem fine111 (N : Nat) : Fine (e111 N) N 111 Tryz.f111 ks111 rs111 (F111 N) :=
  ⟨Tryz.func111, by kernel_rfl, by kernel_rfl, by kernel_rfl, loops_of trivial, by kernel_rfl, by kernel_rfl, fun _ => by kernel_rfl⟩
theorem good111 (N : Nat) : Go.L.Good (e111 N) := good_of trivial
theorem gd111 (N : Nat) : CalOk Tryz.prog 111 (.full (mkFun ks111 rs111 (F111 N))) := mkFun_good (fine111 N) (good111 N)

/-! ### 112: api.Arm] -/
def F112 (N : Nat) : V × H → Option (V × H)
 | (a0, h) =>
 (isNilS a0).bind fun b1 =>
 (if b1 = true then (
 some (.nils, h))
 else (
 none))
abbrev ks112 : List SK := [.one .ref]
abbrev rs112 : List SK := [.one .ref]
def e112 (N : Nat) : Env := ⟨Tryz.prog, 8, inTab [], inTab [], natTab [], inTab [], calTab [], altTab [], loopTab [], natTab [], inTab [3]⟩
theorem fine112 (N : Nat) : Fine (e112 N) N 112 Tryz.f112 ks112 rs112 (F112 N) :=
  ⟨Tryz.func112, by kernel_rfl, by kernel_rfl, by kernel_rfl, loops_of trivial, by kernel_rfl, by kernel_rfl, fun _ => by kernel_rfl⟩
theorem good112 (N : Nat) : Go.L.Good (e112 N) := good_of trivial
theorem gd112 (N : Nat) : CalOk Tryz.prog 112 (.ro (mkFun ks112 rs112 (F112 N))) := mkFun_ro (fine112 N) (good112 N) (by kernel_rfl)

/-! ### 37: node.copied -/
def L37_1 (N : Nat) : Nat → Int × Int × Int × Int × Int × ByteArray × V × ByteArray × V × H → Option (Int × Int × ByteArray × V × ByteArray × V × H)
 | 0, _ => none
 | n + 1, (x39, x40, x41, x42, x43, x44, x45, x46, x47, h48) =>
 (if (decide (x43 < x42)) = true then (
 (sidx x47 x39 4).bind fun q49 =>
 ((rd h48 (padd q49 3) 0)).bind fun x50 =>
 (sidx x47 x39 4).bind fun q51 =>
 ((rd h48 (padd q51 3) 0)).bind fun x52 =>
 (sidx x52 x43 11).bind fun q53 =>
 ((rd h48 (padd q53 10) 0)).bind fun x54 =>
 (F112 N (x54, h48)).bind fun (x55, _) =>
 (sidx x50 x43 11).bind fun q56 =>
 (ck1 x55).bind fun _ =>
 (wr h48 (padd q56 10) [x55]).bind fun h57 =>
 L37_1 N n (x39, x40, x41, x42, (IntKind.i64.wrap (x43 + 1)), x44, x45, x46, x47, h57))
 else (
 some (x40, x41, x44, x45, x46, x47, h48)))
def L37_0 (N : Nat) : Nat → Int × Int × ByteArray × V × ByteArray × V × H → Option (ByteArray × V × ByteArray × V × H)
 | 0, _ => none
 | n + 1, (x65, x66, x67, x68, x69, x70, h71) =>
 (if (decide (x66 < x65)) = true then (
 (sidx x70 x66 4).bind fun q72 =>
 ((rd h71 (padd q72 3) 0)).bind fun x73 =>
 (F111 N (x73, h71)).bind fun (x74, h75) =>
 (sidx x70 x66 4).bind fun q76 =>
 (ck1 x74).bind fun _ =>
 (wr h75 (padd q76 3) [x74]).bind fun h77 =>
 (sidx x70 x66 4).bind fun q78 =>
 ((rd h77 (padd q78 3) 0)).bind fun x79 =>
 (slen x79).bind fun n80 =>
 (L37_1 N N (x66, x65, x66, n80, 0, x67, x68, x69, x70, h77)).bind fun (x81, x82, x83, x84, x85, x86, h87) =>
 L37_0 N n (x81, (IntKind.i64.wrap (x82 + 1)), x83, x84, x85, x86, h87))
 else (
 some (x67, x68, x69, x70, h71)))
def F37 (N : Nat) : ByteArray × V × H → Option (ByteArray × V × H)
 | (a0_0, a0_1, h) =>
 (F110 N (a0_1, h)).bind fun (x1, h2) =>
 (ck1 x1).bind fun _ =>
 (slen x1).bind fun n3 =>
 (L37_0 N N (n3, 0, (ByteArray.mk #[]), .nils, a0_0, x1, h2)).bind fun (x88, x89, x90, x91, h92) =>
 some (x90, x91, h92)
abbrev ks37 : List SK := [.agg [.str, .ref]]
abbrev rs37 : List SK := [.agg [.str, .ref]]
def e37 (N : Nat) : Env := ⟨Tryz.prog, 63, inTab [1, 2, 3], inTab [], natTab [(1, 1), (2, 2), (3, 3), (6, 1), (8, 1), (12, 3), (18, 3), (21, 3), (30, 3), (40, 3), (47, 3)], inTab [], calTab [(110, .full (mkFun ks110 rs110 (F110 N))), (111, .full (mkFun ks111 rs111 (F111 N))), (112, .ro (mkFun ks112 rs112 (F112 N)))], altTab [], loopTab [(3, ⟨⟨.normal, [2, 3, 14, 15], [.lp 2 0, .lp 3 0, .one (.int .i64), .one (.int .i64)], [2, 3], [.cells [.str, .ref], .cells [.str, .ref]]⟩, [⟨(.exit 0), [2, 3], [.lp 2 0, .lp 3 0], [2, 3], [.cells [.str, .ref], .cells [.str, .ref]]⟩], L37_0 N⟩), (7, ⟨⟨.normal, [2, 3, 4, 14, 15, 36, 37], [.lp 2 0, .lp 3 0, .one (.int .i64), .one (.int .i64), .one (.int .i64), .one (.int .i64), .one (.int .i64)], [2, 3], [.cells [.str, .ref], .cells [.str, .ref]]⟩, [⟨(.exit 2), [2, 3, 14, 15], [.lp 2 0, .lp 3 0, .one (.int .i64), .one (.int .i64)], [2, 3], [.cells [.str, .ref], .cells [.str, .ref]]⟩], L37_1 N⟩)], natTab [], inTab []⟩
theorem l37_0 (N : Nat) : ∀ A, (e37 N).lp (lid (loopAt Tryz.f37 0)) = some A → LoopOk (e37 N) N (loopAt Tryz.f37 0) A :=
  loopOk_of (A := ⟨⟨.normal, [2, 3, 14, 15], [.lp 2 0, .lp 3 0, .one (.int .i64), .one (.int .i64)], [2, 3], [.cells [.str, .ref], .cells [.str, .ref]]⟩, [⟨(.exit 0), [2, 3], [.lp 2 0, .lp 3 0], [2, 3], [.cells [.str, .ref], .cells [.str, .ref]]⟩], L37_0 N⟩) (by kernel_rfl) (fun _ => rfl) (fun _ _ => by kernel_rfl)
theorem l37_1 (N : Nat) : ∀ A, (e37 N).lp (lid (loopAt Tryz.f37 1)) = some A → LoopOk (e37 N) N (loopAt Tryz.f37 1) A :=
  loopOk_of (A := ⟨⟨.normal, [2, 3, 4, 14, 15, 36, 37], [.lp 2 0, .lp 3 0, .one (.int .i64), .one (.int .i64), .one (.int .i64), .one (.int .i64), .one (.int .i64)], [2, 3], [.cells [.str, .ref], .cells [.str, .ref]]⟩, [⟨(.exit 2), [2, 3, 14, 15], [.lp 2 0, .lp 3 0, .one (.int .i64), .one (.int .i64)], [2, 3], [.cells [.str, .ref], .cells [.str, .ref]]⟩], L37_1 N⟩) (by kernel_rfl) (fun _ => rfl) (fun _ _ => by kernel_rfl)
theorem fine37 (N : Nat) : Fine (e37 N) N 37 Tryz.f37 ks37 rs37 (F37 N) :=
  ⟨Tryz.func37, by kernel_rfl, by kernel_rfl, by kernel_rfl, loops_of ⟨l37_0 N, ⟨l37_1 N, trivial⟩⟩, by kernel_rfl, by kernel_rfl, fun _ => by kernel_rfl⟩
theorem good37 (N : Nat) : Go.L.Good (e37 N) := good_of ⟨gd110 N, ⟨gd111 N, ⟨gd112 N, trivial⟩⟩⟩
theorem gd37 (N : Nat) : CalOk Tryz.prog 37 (.full (mkFun ks37 rs37 (F37 N))) := mkFun_good (fine37 N) (good37 N)
theorem gl37 (N : Nat) : CalOk Tryz.prog 37 (.gro (mkFun ks37 rs37 (locF true ks37 rs37 (F37 N)))) := loc_gro (gd37 N)

/-! ### 38: node.Node).done -/
def F38 (N : Nat) : V × List V × H → Option (H)
 | (a0, a1, h) =>
 (if (a1).length = 29 then (
 (nck a0).bind fun _ =>
 ((rd h (padd a0 11) 0)).bind fun x1 =>
 ((if 0 + 29 ≤ (a1).length then some (((a1).drop 0).take 29) else none) : Option (List V)).bind fun cs2 =>
 (if (cs2).length = 29 then (
 (if 0 + (cs2).length ≤ 29 then (
 (scells h (.rs 29 (chunks 29 1 (splice [(.int .i64 0), (.int .i64 0), (.int .i64 0), (.int .i64 0), (.int .i64 0), (.int .i64 0), (.int .i64 0), .nils, (.int .i64 0), (.bool false), .nils, .nils, (.int .i64 0), (.int .i64 0), (.int .i64 0), (.int .i64 0), (.int .i64 0), (.int .i64 0), (.int .i64 0), (.int .i64 0), (.cplx .f64 0 0), (.str (ByteArray.mk #[])), (.int .i64 0), (.int .i64 0), .nils, (.int .i64 0), (.int .i64 0), .nils, .nils] 0 cs2))) 29).bind fun cs5 =>
 (happ h x1 29 (snlen (.rs 29 (chunks 29 1 (splice [(.int .i64 0), (.int .i64 0), (.int .i64 0), (.int .i64 0), (.int .i64 0), (.int .i64 0), (.int .i64 0), .nils, (.int .i64 0), (.bool false), .nils, .nils, (.int .i64 0), (.int .i64 0), (.int .i64 0), (.int .i64 0), (.int .i64 0), (.int .i64 0), (.int .i64 0), (.int .i64 0), (.cplx .f64 0 0), (.str (ByteArray.mk #[])), (.int .i64 0), (.int .i64 0), .nils, (.int .i64 0), (.int .i64 0), .nils, .nils] 0 cs2)))) cs5).bind fun (v3, h4) =>
 (nck a0).bind fun _ =>
 (ck1 v3).bind fun _ =>
 (wr h4 (padd a0 11) [v3]).bind fun h6 =>
 some h6) else none)) else none)) else none)
abbrev ks38 : List SK := [.one .ref, .blk]
abbrev rs38 : List SK := []
def e38 (N : Nat) : Env := ⟨Tryz.prog, 14, inTab [3, 10], inTab [], natTab [(3, 3)], inTab [], calTab [], altTab [], loopTab [], natTab [], inTab []⟩
theorem fine38 (N : Nat) : Fine (e38 N) N 38 Tryz.f38 ks38 rs38 (F38 N) :=
  ⟨Tryz.func38, by kernel_rfl, by kernel_rfl, by kernel_rfl, loops_of trivial, by kernel_rfl, by kernel_rfl, fun _ => by kernel_rfl⟩
theorem good38 (N : Nat) : Go.L.Good (e38 N) := good_of trivial
theorem gd38 (N : Nat) : CalOk Tryz.prog 38 (.full (mkFun ks38 rs38 (F38 N))) := mkFun_good (fine38 N) (good38 N)

/-! ### 9: node.Node).Load -/
def F9 (N : Nat) : V × ByteArray × V × H → Option (Int × Int × H)
 | (a0, a1_0, a1_1, h) =>
 (F35 N (a0, h)).bind fun (x1, _) =>
 (if (x1 != 0) = true then (
 some (0, x1, h))
 else (
 (F36 N (a1_0, a1_1, h)).bind fun (x2, x3, x4, h5) =>
 (if (x2 != 0) = true then (
 none)
 else (
 (nck a0).bind fun _ =>
 ((rd h5 (padd a0 1) 0)).bind fun x6 =>
 (slen x6).bind fun n7 =>
 (if (decide (n7 ≥ 32)) = true then (
 none)
 else (
 (nck a0).bind fun _ =>
 ((rd h5 (padd a0 1) 0)).bind fun x8 =>
 Option.bind (α := (ByteArray × V × H)) (locF true ks37 rs37 (F37 N) ((a1_0, a1_1, h5) : ByteArray × V × H)) fun (x9, x10, h11) =>
 (happ h11 x8 2 1 [(.str x9), x10]).bind fun (v12, h13) =>
 (nck a0).bind fun _ =>
 (ck1 v12).bind fun _ =>
 (wr h13 (padd a0 1) [v12]).bind fun h14 =>
 (nck a0).bind fun _ =>
 ((rd h14 (padd a0 1) 0)).bind fun x15 =>
 (slen x15).bind fun n16 =>
 Option.bind (α := (ByteArray × V × H)) (locF true ks37 rs37 (F37 N) ((a1_0, a1_1, h14) : ByteArray × V × H)) fun (x17, x18, h19) =>
 (some (h19 ++ [O.cells 0 [(.str x17), x18]]) : Option H).bind fun h20 =>
 (ck1 (.sl (h19).length 0 0 1 2 (some 1))).bind fun _ =>
 (F38 N (a0, [(.int .i64 1), (.int .i64 0), (.int .i64 0), (.int .i64 (IntKind.i64.wrap (n16 - 1))), (.int .i64 0), (.int .i64 0), (.int .i64 0), .nils, (.int .i64 0), (.bool false), .nils, .nils, (.int .i64 0), (.int .i64 0), (.int .i64 0), (.int .i64 0), (.int .i64 0), (.int .i64 0), (.int .i64 0), (.int .i64 0), (.cplx .f64 0 0), (.str (ByteArray.mk #[])), (.int .i64 0), (.int .i64 0), .nils, (.int .i64 0), (.int .i64 0), .nils, (.sl (h19).length 0 0 1 2 (some 1))], h20)).bind fun h21 =>
 (nck a0).bind fun _ =>
 ((rd h21 (padd a0 1) 0)).bind fun x22 =>
 (slen x22).bind fun n23 =>
 some ((IntKind.i64.wrap (n23 - 1)), 0, h21)))))))
abbrev ks9 : List SK := [.one .ref, .agg [.str, .ref]]
abbrev rs9 : List SK := [.one (.int .i64), .one (.int .i64)]
def e9 (N : Nat) : Env := ⟨Tryz.prog, 59, inTab [3, 37], inTab [], natTab [(3, 3)], inTab [], calTab [(35, .ro (mkFun ks35 rs35 (F35 N))), (36, .full (mkFun ks36 rs36 (F36 N))), (37, .gro (mkFun ks37 rs37 (locF true ks37 rs37 (F37 N)))), (38, .full (mkFun ks38 rs38 (F38 N)))], altTab [], loopTab [], natTab [], inTab [6, 8]⟩
theorem fine9 (N : Nat) : Fine (e9 N) N 9 Tryz.f9 ks9 rs9 (F9 N) :=
  ⟨Tryz.func9, by kernel_rfl, by kernel_rfl, by kernel_rfl, loops_of trivial, by kernel_rfl, by kernel_rfl, fun _ => by kernel_rfl⟩
theorem good9 (N : Nat) : Go.L.Good (e9 N) := good_of ⟨gd35 N, ⟨gd36 N, ⟨gl37 N, ⟨gd38 N, trivial⟩⟩⟩⟩
theorem gd9 (N : Nat) : CalOk Tryz.prog 9 (.full (mkFun ks9 rs9 (F9 N))) := mkFun_good (fine9 N) (good9 N)
theorem gl9 (N : Nat) : CalOk Tryz.prog 9 (.full (mkFun ks9 rs9 (locF false ks9 rs9 (F9 N)))) := loc_full (gd9 N)

/-! ### 39: homes.Mod -/
def F39 (N : Nat) : Int × Int × H → Option (Int × Int × H)
 | (a0, a1, h) =>
 (if (decide (a1 < 1)) = true then (
 none)
 else (
 (if a1 = 0 then none else (
 (if (decide ((Int.tmod a0 a1) < 0)) = true then (
 none)
 else (
 some ((Int.tmod a0 a1), 0, h)))))))
abbrev ks39 : List SK := [.one (.int .i64), .one (.int .i64)]
abbrev rs39 : List SK := [.one (.int .i64), .one (.int .i64)]
def e39 (N : Nat) : Env := ⟨Tryz.prog, 18, inTab [], inTab [], natTab [], inTab [], calTab [], altTab [], loopTab [], natTab [], inTab [2, 5]⟩
theorem fine39 (N : Nat) : Fine (e39 N) N 39 Tryz.f39 ks39 rs39 (F39 N) :=
  ⟨Tryz.func39, by kernel_rfl, by kernel_rfl, by kernel_rfl, loops_of trivial, by kernel_rfl, by kernel_rfl, fun _ => by kernel_rfl⟩
theorem good39 (N : Nat) : Go.L.Good (e39 N) := good_of trivial
theorem gd39 : CalOk Tryz.prog 39 (.pure (mkP ks39 rs39 (F39 100))) := mkP_good (fine39 100) (good39 100) (by kernel_rfl) (by kernel_rfl)

/-! ### 211: frame.New -/
def F211 (N : Nat) : H → Option (V × H)
 | h =>
 (some (h ++ [O.cells 0 [(.bool true), .nils, .nils]]) : Option H).bind fun h1 =>
 some ((.ptr (h).length 0 0), h1)
abbrev ks211 : List SK := []
abbrev rs211 : List SK := [.one .ref]
def e211 (N : Nat) : Env := ⟨Tryz.prog, 3, inTab [], inTab [], natTab [], inTab [], calTab [], altTab [], loopTab [], natTab [], inTab []⟩
theorem fine211 (N : Nat) : Fine (e211 N) N 211 Tryz.f211 ks211 rs211 (F211 N) :=
  ⟨Tryz.func211, by kernel_rfl, by kernel_rfl, by kernel_rfl, loops_of trivial, by kernel_rfl, by kernel_rfl, fun _ => by kernel_rfl⟩
theorem good211 (N : Nat) : Go.L.Good (e211 N) := good_of trivial
theorem gdg211 (N : Nat) : CalOk Tryz.prog 211 (.gro (mkFun ks211 rs211 (F211 N))) := mkFun_groC (fine211 N) (good211 N) (by kernel_rfl)

/-! ### 248: frame.Stack).lives -/
def F248 (N : Nat) : V × H → Option (Bool × H)
 | (a0, h) =>
 (isNil a0).bind fun b1 =>
 (if (!b1) = true then (
 (nck a0).bind fun _ =>
 (L.asBool (rd h (padd a0 0) 0)).bind fun x4 =>
 some (x4, h))
 else (
 some (false, h))).bind fun (b2, h3) =>
 some (b2, h3)
abbrev ks248 : List SK := [.one .ref]
abbrev rs248 : List SK := [.one .bool]
def e248 (N : Nat) : Env := ⟨Tryz.prog, 11, inTab [], inTab [], natTab [], inTab [], calTab [], altTab [], loopTab [], natTab [], inTab []⟩
theorem fine248 (N : Nat) : Fine (e248 N) N 248 Tryz.f248 ks248 rs248 (F248 N) :=
  ⟨Tryz.func248, by kernel_rfl, by kernel_rfl, by kernel_rfl, loops_of trivial, by kernel_rfl, by kernel_rfl, fun _ => by kernel_rfl⟩
theorem good248 (N : Nat) : Go.L.Good (e248 N) := good_of trivial
theorem gd248 (N : Nat) : CalOk Tryz.prog 248 (.ro (mkFun ks248 rs248 (F248 N))) := mkFun_ro (fine248 N) (good248 N) (by kernel_rfl)

/-! ### 393: frame.Stack).last -/
def F393 (N : Nat) : V × H → Option (V × H)
 | (a0, h) =>
 (F248 N (a0, h)).bind fun (x1, _) =>
 (if (!x1) = true then (
 some (true, h))
 else (
 (nck a0).bind fun _ =>
 ((rd h (padd a0 1) 0)).bind fun x4 =>
 (slen x4).bind fun n5 =>
 some ((n5 == 0), h))).bind fun (b2, h3) =>
 (if b2 = true then (
 some (.nilp, h3))
 else (
 (nck a0).bind fun _ =>
 ((rd h3 (padd a0 1) 0)).bind fun x6 =>
 (nck a0).bind fun _ =>
 ((rd h3 (padd a0 1) 0)).bind fun x7 =>
 (slen x7).bind fun n8 =>
 (sidx x6 (IntKind.i64.wrap (n8 - 1)) 4).bind fun q9 =>
 some (q9, h3)))
abbrev ks393 : List SK := [.one .ref]
abbrev rs393 : List SK := [.one .ref]
def e393 (N : Nat) : Env := ⟨Tryz.prog, 25, inTab [], inTab [], natTab [], inTab [], calTab [(248, .ro (mkFun ks248 rs248 (F248 N)))], altTab [], loopTab [], natTab [], inTab []⟩
theorem fine393 (N : Nat) : Fine (e393 N) N 393 Tryz.f393 ks393 rs393 (F393 N) :=
  ⟨Tryz.func393, by kernel_rfl, by kernel_rfl, by kernel_rfl, loops_of trivial, by kernel_rfl, by kernel_rfl, fun _ => by kernel_rfl⟩
theorem good393 (N : Nat) : Go.L.Good (e393 N) := good_of ⟨gd248 N, trivial⟩
theorem gd393 (N : Nat) : CalOk Tryz.prog 393 (.ro (mkFun ks393 rs393 (F393 N))) := mkFun_ro (fine393 N) (good393 N) (by kernel_rfl)

/-! ### 318: frame.Stack).height -/
def F318 (N : Nat) : V × H → Option (Int × H)
 | (a0, h) =>
 (F393 N (a0, h)).bind fun (x1, _) =>
 (isNil x1).bind fun b2 =>
 (if (!b2) = true then (
 (nck a0).bind fun _ =>
 ((rd h (padd a0 2) 0)).bind fun x3 =>
 (slen x3).bind fun n4 =>
 (nck x1).bind fun _ =>
 (L.asInt .i64 (rd h (padd x1 3) 0)).bind fun x5 =>
 some ((IntKind.i64.wrap (n4 - x5)), h))
 else (
 (nck a0).bind fun _ =>
 ((rd h (padd a0 2) 0)).bind fun x6 =>
 (slen x6).bind fun n7 =>
 some (n7, h)))
abbrev ks318 : List SK := [.one .ref]
abbrev rs318 : List SK := [.one (.int .i64)]
def e318 (N : Nat) : Env := ⟨Tryz.prog, 23, inTab [], inTab [], natTab [], inTab [], calTab [(393, .ro (mkFun ks393 rs393 (F393 N)))], altTab [], loopTab [], natTab [], inTab []⟩
theorem fine318 (N : Nat) : Fine (e318 N) N 318 Tryz.f318 ks318 rs318 (F318 N) :=
  ⟨Tryz.func318, by kernel_rfl, by kernel_rfl, by kernel_rfl, loops_of trivial, by kernel_rfl, by kernel_rfl, fun _ => by kernel_rfl⟩
theorem good318 (N : Nat) : Go.L.Good (e318 N) := good_of ⟨gd393 N, trivial⟩
theorem gd318 (N : Nat) : CalOk Tryz.prog 318 (.ro (mkFun ks318 rs318 (F318 N))) := mkFun_ro (fine318 N) (good318 N) (by kernel_rfl)

/-! ### 41: api.Term] -/
def F41 (N : Nat) : V × H → Option (V × H)
 | (a0, h) =>
 (isNilS a0).bind fun b1 =>
 (if b1 = true then (
 some (.nils, h))
 else (
 none))
abbrev ks41 : List SK := [.one .ref]
abbrev rs41 : List SK := [.one .ref]
def e41 (N : Nat) : Env := ⟨Tryz.prog, 8, inTab [], inTab [], natTab [], inTab [], calTab [], altTab [], loopTab [], natTab [], inTab [3]⟩
theorem fine41 (N : Nat) : Fine (e41 N) N 41 Tryz.f41 ks41 rs41 (F41 N) :=
  ⟨Tryz.func41, by kernel_rfl, by kernel_rfl, by kernel_rfl, loops_of trivial, by kernel_rfl, by kernel_rfl, fun _ => by kernel_rfl⟩
theorem good41 (N : Nat) : Go.L.Good (e41 N) := good_of trivial
theorem gd41 (N : Nat) : CalOk Tryz.prog 41 (.ro (mkFun ks41 rs41 (F41 N))) := mkFun_ro (fine41 N) (good41 N) (by kernel_rfl)

/-! ### 222: frame.Stack).Enter -/
def L222_0 (N : Nat) : Nat → V × Int × Int × Int × V × H → Option (V × Int × Int × V × H)
 | 0, _ => none
 | n + 1, (x30, x31, x32, x33, x34, h35) =>
 (slen x34).bind fun n36 =>
 (if (decide (n36 < x32)) = true then (
 none)
 else (
 some (x30, x31, x33, x34, h35)))
def F222 (N : Nat) : V × Int × Int × Int × H → Option (Int × H)
 | (a0, a1, a2, a3, h) =>
 (F248 N (a0, h)).bind fun (x1, _) =>
 (if (!x1) = true then (
 some (true, h))
 else (
 some ((decide (a1 < 0)), h))).bind fun (b2, h3) =>
 (if b2 = true then (
 some (true, h3))
 else (
 some ((decide (a1 ≥ 64)), h3))).bind fun (b4, h5) =>
 (if b4 = true then (
 some (true, h5))
 else (
 some ((decide (a3 < 0)), h5))).bind fun (b6, h7) =>
 (if b6 = true then (
 some (true, h7))
 else (
 some ((decide (a3 > 32)), h7))).bind fun (b8, h9) =>
 (if b8 = true then (
 some (true, h9))
 else (
 some ((decide (a2 < 0)), h9))).bind fun (b10, h11) =>
 (if b10 = true then (
 some (true, h11))
 else (
 some ((decide (a2 > a3)), h11))).bind fun (b12, h13) =>
 (if b12 = true then (
 none)
 else (
 (F318 N (a0, h13)).bind fun (x14, _) =>
 (if (decide (x14 < a2)) = true then (
 none)
 else (
 (nck a0).bind fun _ =>
 ((rd h13 (padd a0 1) 0)).bind fun x15 =>
 (slen x15).bind fun n16 =>
 (if (decide (n16 ≥ 64)) = true then (
 none)
 else (
 (nck a0).bind fun _ =>
 ((rd h13 (padd a0 2) 0)).bind fun x17 =>
 (slen x17).bind fun n18 =>
 (nck a0).bind fun _ =>
 ((rd h13 (padd a0 2) 0)).bind fun x19 =>
 (slen x19).bind fun n20 =>
 (ssl 7 x19 (IntKind.i64.wrap (n18 - a2)) n20).bind fun v21 =>
 (F41 N (v21, h13)).bind fun (x22, _) =>
 (L222_0 N N (a0, a1, a3, (IntKind.i64.wrap (n18 - a2)), x22, h13)).bind fun (x37, x38, x39, x40, h41) =>
 (nck x37).bind fun _ =>
 ((rd h41 (padd x37 2) 0)).bind fun x42 =>
 (slen x42).bind fun n43 =>
 (ssl 7 x42 0 x39).bind fun v44 =>
 (nck x37).bind fun _ =>
 (ck1 v44).bind fun _ =>
 (wr h41 (padd x37 2) [v44]).bind fun h45 =>
 (nck x37).bind fun _ =>
 ((rd h45 (padd x37 1) 0)).bind fun x46 =>
 (ck1 x40).bind fun _ =>
 (happ h45 x46 4 1 [(.int .i64 x38), (.int .i64 0), x40, (.int .i64 x39)]).bind fun (v47, h48) =>
 (nck x37).bind fun _ =>
 (ck1 v47).bind fun _ =>
 (wr h48 (padd x37 1) [v47]).bind fun h49 =>
 some (0, h49)))))))
abbrev ks222 : List SK := [.one .ref, .one (.int .i64), .one (.int .i64), .one (.int .i64)]
abbrev rs222 : List SK := [.one (.int .i64)]
def e222 (N : Nat) : Env := ⟨Tryz.prog, 94, inTab [69, 90], inTab [], natTab [], inTab [], calTab [(248, .ro (mkFun ks248 rs248 (F248 N))), (318, .ro (mkFun ks318 rs318 (F318 N))), (41, .ro (mkFun ks41 rs41 (F41 N)))], altTab [], loopTab [(9, ⟨⟨.normal, [0, 1, 3, 9, 10], [.one .ref, .one (.int .i64), .one (.int .i64), .one (.int .i64), .one .ref], [], []⟩, [⟨(.exit 0), [0, 1, 9, 10], [.one .ref, .one (.int .i64), .one (.int .i64), .one .ref], [], []⟩], L222_0 N⟩)], natTab [], inTab [2, 4, 6, 10]⟩
theorem l222_0 (N : Nat) : ∀ A, (e222 N).lp (lid (loopAt Tryz.f222 0)) = some A → LoopOk (e222 N) N (loopAt Tryz.f222 0) A :=
  loopOk_of (A := ⟨⟨.normal, [0, 1, 3, 9, 10], [.one .ref, .one (.int .i64), .one (.int .i64), .one (.int .i64), .one .ref], [], []⟩, [⟨(.exit 0), [0, 1, 9, 10], [.one .ref, .one (.int .i64), .one (.int .i64), .one .ref], [], []⟩], L222_0 N⟩) (by kernel_rfl) (fun _ => rfl) (fun _ _ => by kernel_rfl)
theorem fine222 (N : Nat) : Fine (e222 N) N 222 Tryz.f222 ks222 rs222 (F222 N) :=
  ⟨Tryz.func222, by kernel_rfl, by kernel_rfl, by kernel_rfl, loops_of ⟨l222_0 N, trivial⟩, by kernel_rfl, by kernel_rfl, fun _ => by kernel_rfl⟩
theorem good222 (N : Nat) : Go.L.Good (e222 N) := good_of ⟨gd248 N, ⟨gd318 N, ⟨gd41 N, trivial⟩⟩⟩
theorem gd222 (N : Nat) : CalOk Tryz.prog 222 (.full (mkFun ks222 rs222 (F222 N))) := mkFun_good (fine222 N) (good222 N)

/-! ### 113: step.Begin -/
def L113_0 (N : Nat) : Nat → Int × V × V × Int × Int × ByteArray × V × H → Option (Int × V × V × ByteArray × V × H)
 | 0, _ => none
 | n + 1, (x22, x23, x24, x25, x26, x27, x28, h29) =>
 (if (decide (x26 < x25)) = true then (
 none)
 else (
 some (x22, x23, x24, x27, x28, h29)))
def F113 (N : Nat) : ByteArray × V × Int × V × H → Option (V × Int × H)
 | (a0_0, a0_1, a1, a2, h) =>
 (F36 N (a0_0, a0_1, h)).bind fun (x1, x2, x3, h4) =>
 (if (x1 != 0) = true then (
 none)
 else (
 (if (decide (a1 < 0)) = true then (
 some (true, h4))
 else (
 (slen a0_1).bind fun n7 =>
 some ((decide (a1 ≥ n7)), h4))).bind fun (b5, h6) =>
 (if b5 = true then (
 none)
 else (
 (slen a2).bind fun n8 =>
 (sidx a0_1 a1 4).bind fun q9 =>
 (L.asInt .i64 (rd h6 (padd q9 1) 0)).bind fun x10 =>
 (if (n8 != x10) = true then (
 none)
 else (
 (F211 N h6).bind fun (x11, h12) =>
 (slen a2).bind fun n13 =>
 (L113_0 N N (a1, a2, x11, n13, 0, a0_0, a0_1, h12)).bind fun (x30, x31, x32, x33, x34, h35) =>
 (slen x31).bind fun n36 =>
 (sidx x34 x30 4).bind fun q37 =>
 (L.asInt .i64 (rd h35 (padd q37 2) 0)).bind fun x38 =>
 (F222 N (x32, x30, n36, x38, h35)).bind fun (x39, h40) =>
 (if (x39 != 0) = true then (
 none)
 else (
 some (x32, 0, h40)))))))))
abbrev ks113 : List SK := [.agg [.str, .ref], .one (.int .i64), .one .ref]
abbrev rs113 : List SK := [.one .ref, .one (.int .i64)]
def e113 (N : Nat) : Env := ⟨Tryz.prog, 74, inTab [3, 13], inTab [], natTab [(3, 3), (13, 13), (30, 3), (38, 3), (63, 3)], inTab [], calTab [(36, .full (mkFun ks36 rs36 (F36 N))), (211, .gro (mkFun ks211 rs211 (F211 N))), (222, .full (mkFun ks222 rs222 (F222 N)))], altTab [], loopTab [(10, ⟨⟨.normal, [1, 2, 3, 11, 47, 48], [.one (.int .i64), .one .ref, .lp 3 0, .one .ref, .one (.int .i64), .one (.int .i64)], [3], [.cells [.str, .ref]]⟩, [⟨(.exit 1), [1, 2, 3, 11], [.one (.int .i64), .one .ref, .lp 3 0, .one .ref], [3], [.cells [.str, .ref]]⟩], L113_0 N⟩)], natTab [], inTab [3, 5, 7, 11, 12, 13, 14, 15, 18]⟩
theorem l113_0 (N : Nat) : ∀ A, (e113 N).lp (lid (loopAt Tryz.f113 0)) = some A → LoopOk (e113 N) N (loopAt Tryz.f113 0) A :=
  loopOk_of (A := ⟨⟨.normal, [1, 2, 3, 11, 47, 48], [.one (.int .i64), .one .ref, .lp 3 0, .one .ref, .one (.int .i64), .one (.int .i64)], [3], [.cells [.str, .ref]]⟩, [⟨(.exit 1), [1, 2, 3, 11], [.one (.int .i64), .one .ref, .lp 3 0, .one .ref], [3], [.cells [.str, .ref]]⟩], L113_0 N⟩) (by kernel_rfl) (fun _ => rfl) (fun _ _ => by kernel_rfl)
theorem fine113 (N : Nat) : Fine (e113 N) N 113 Tryz.f113 ks113 rs113 (F113 N) :=
  ⟨Tryz.func113, by kernel_rfl, by kernel_rfl, by kernel_rfl, loops_of ⟨l113_0 N, trivial⟩, by kernel_rfl, by kernel_rfl, fun _ => by kernel_rfl⟩
theorem good113 (N : Nat) : Go.L.Good (e113 N) := good_of ⟨gd36 N, ⟨gdg211 N, ⟨gd222 N, trivial⟩⟩⟩
theorem gd113 (N : Nat) : CalOk Tryz.prog 113 (.full (mkFun ks113 rs113 (F113 N))) := mkFun_good (fine113 N) (good113 N)

/-! ### 126: table.Table).given -/
def F126 (N : Nat) : V × H → Option (Bool × H)
 | (a0, h) =>
 (isNil a0).bind fun b1 =>
 (if (!b1) = true then (
 (nck a0).bind fun _ =>
 ((rd h (padd a0 0) 0)).bind fun x4 =>
 (slen x4).bind fun n5 =>
 some ((decide (n5 > 0)), h))
 else (
 some (false, h))).bind fun (b2, h3) =>
 some (b2, h3)
abbrev ks126 : List SK := [.one .ref]
abbrev rs126 : List SK := [.one .bool]
def e126 (N : Nat) : Env := ⟨Tryz.prog, 13, inTab [], inTab [], natTab [], inTab [], calTab [], altTab [], loopTab [], natTab [], inTab []⟩
theorem fine126 (N : Nat) : Fine (e126 N) N 126 Tryz.f126 ks126 rs126 (F126 N) :=
  ⟨Tryz.func126, by kernel_rfl, by kernel_rfl, by kernel_rfl, loops_of trivial, by kernel_rfl, by kernel_rfl, fun _ => by kernel_rfl⟩
theorem good126 (N : Nat) : Go.L.Good (e126 N) := good_of trivial
theorem gd126 (N : Nat) : CalOk Tryz.prog 126 (.ro (mkFun ks126 rs126 (F126 N))) := mkFun_ro (fine126 N) (good126 N) (by kernel_rfl)

/-! ### 223: table.seat] -/
def F223 (N : Nat) : V × H → Option (V × H)
 | (a0, h) =>
 (isNilS a0).bind fun b1 =>
 (if b1 = true then (
 none)
 else (
 (some (h ++ [O.cells 0 []]) : Option H).bind fun h2 =>
 (scells h2 a0 3).bind fun cs5 =>
 (happ h2 (.sl (h).length 0 0 0 3 (some 0)) 3 (snlen a0) cs5).bind fun (v3, h4) =>
 some (v3, h4)))
abbrev ks223 : List SK := [.one .ref]
abbrev rs223 : List SK := [.one .ref]
def e223 (N : Nat) : Env := ⟨Tryz.prog, 8, inTab [], inTab [], natTab [], inTab [], calTab [], altTab [], loopTab [], natTab [], inTab [2]⟩
theorem fine223 (N : Nat) : Fine (e223 N) N 223 Tryz.f223 ks223 rs223 (F223 N) :=
  ⟨Tryz.func223, by kernel_rfl, by kernel_rfl, by kernel_rfl, loops_of trivial, by kernel_rfl, by kernel_rfl, fun _ => by kernel_rfl⟩
theorem good223 (N : Nat) : Go.L.Good (e223 N) := good_of trivial
theorem gd223 (N : Nat) : CalOk Tryz.prog 223 (.full (mkFun ks223 rs223 (F223 N))) := mkFun_good (fine223 N) (good223 N)

/-! ### 114: table.Table).Copy -/
def L114_0 (N : Nat) : Nat → V × V × Int × Int × H → Option (V × H)
 | 0, _ => none
 | n + 1, (x18, x19, x20, x21, h22) =>
 (if (decide (x21 < x20)) = true then (
 (sidx x19 x21 3).bind fun q23 =>
 (L.asInt .i64 (rd h22 q23 0)).bind fun x24 =>
 (L.asBool (rd h22 q23 1)).bind fun x25 =>
 (L.asStr (rd h22 q23 2)).bind fun x26 =>
 (if (!((x26).toList == ((ByteArray.mk #[])).toList)) = true then (
 none)
 else (
 L114_0 N n (x18, x19, x20, (IntKind.i64.wrap (x21 + 1)), h22))))
 else (
 some (x18, h22)))
def F114 (N : Nat) : V × H → Option (V × H)
 | (a0, h) =>
 (F126 N (a0, h)).bind fun (x1, _) =>
 (if (!x1) = true then (
 none)
 else (
 (nck a0).bind fun _ =>
 ((rd h (padd a0 0) 0)).bind fun x2 =>
 (F223 N (x2, h)).bind fun (x3, h4) =>
 (some (h4 ++ [O.map 0 [] []]) : Option H).bind fun h5 =>
 (ck1 x3).bind fun _ =>
 (ck1 (.map (h4).length)).bind fun _ =>
 (some (h5 ++ [O.cells 0 [x3, (.map (h4).length)]]) : Option H).bind fun h6 =>
 ((rd h6 (.ptr (h5).length 0 0) 0)).bind fun x7 =>
 (slen x7).bind fun n8 =>
 (L114_0 N N ((.ptr (h5).length 0 0), x7, n8, 0, h6)).bind fun (x27, h28) =>
 some (x27, h28)))
abbrev ks114 : List SK := [.one .ref]
abbrev rs114 : List SK := [.one .ref]
def e114 (N : Nat) : Env := ⟨Tryz.prog, 39, inTab [5], inTab [], natTab [(5, 5), (27, 5), (34, 5)], inTab [], calTab [(126, .ro (mkFun ks126 rs126 (F126 N))), (223, .full (mkFun ks223 rs223 (F223 N)))], altTab [], loopTab [(5, ⟨⟨.normal, [3, 20, 21, 22], [.one .ref, .one .ref, .one (.int .i64), .one (.int .i64)], [], []⟩, [⟨(.exit 0), [3], [.one .ref], [], []⟩], L114_0 N⟩)], natTab [], inTab [2, 8]⟩
theorem l114_0 (N : Nat) : ∀ A, (e114 N).lp (lid (loopAt Tryz.f114 0)) = some A → LoopOk (e114 N) N (loopAt Tryz.f114 0) A :=
  loopOk_of (A := ⟨⟨.normal, [3, 20, 21, 22], [.one .ref, .one .ref, .one (.int .i64), .one (.int .i64)], [], []⟩, [⟨(.exit 0), [3], [.one .ref], [], []⟩], L114_0 N⟩) (by kernel_rfl) (fun _ => rfl) (fun _ _ => by kernel_rfl)
theorem fine114 (N : Nat) : Fine (e114 N) N 114 Tryz.f114 ks114 rs114 (F114 N) :=
  ⟨Tryz.func114, by kernel_rfl, by kernel_rfl, by kernel_rfl, loops_of ⟨l114_0 N, trivial⟩, by kernel_rfl, by kernel_rfl, fun _ => by kernel_rfl⟩
theorem good114 (N : Nat) : Go.L.Good (e114 N) := good_of ⟨gd126 N, ⟨gd223 N, trivial⟩⟩
theorem gd114 (N : Nat) : CalOk Tryz.prog 114 (.full (mkFun ks114 rs114 (F114 N))) := mkFun_good (fine114 N) (good114 N)

/-! ### 154: table.Table).pid -/
def F154 (N : Nat) : V × Int × H → Option (Int × Int × H)
 | (a0, a1, h) =>
 (nck a0).bind fun _ =>
 ((rd h (padd a0 0) 0)).bind fun x1 =>
 (sidx x1 a1 3).bind fun q2 =>
 (L.asInt .i64 (rd h (padd q2 0) 0)).bind fun x3 =>
 some (a1, x3, h)
abbrev ks154 : List SK := [.one .ref, .one (.int .i64)]
abbrev rs154 : List SK := [.agg [(.int .i64), (.int .i64)]]
def e154 (N : Nat) : Env := ⟨Tryz.prog, 15, inTab [4], inTab [], natTab [(4, 4)], inTab [], calTab [], altTab [], loopTab [], natTab [], inTab []⟩
theorem fine154 (N : Nat) : Fine (e154 N) N 154 Tryz.f154 ks154 rs154 (F154 N) :=
  ⟨Tryz.func154, by kernel_rfl, by kernel_rfl, by kernel_rfl, loops_of trivial, by kernel_rfl, by kernel_rfl, fun _ => by kernel_rfl⟩
theorem good154 (N : Nat) : Go.L.Good (e154 N) := good_of trivial
theorem gd154 (N : Nat) : CalOk Tryz.prog 154 (.ro (mkFun ks154 rs154 (F154 N))) := mkFun_ro (fine154 N) (good154 N) (by kernel_rfl)

/-! ### 115: table.Table).Add -/
def L115_0 (N : Nat) : Nat → V × Int × Int × Int × Int × H → Option ((H) ⊕ (Int × Int × Int × H))
 | 0, _ => none
 | n + 1, (x21, x22, x23, x24, x25, h26) =>
 (if (decide (x23 < x22)) = true then (
 (nck x21).bind fun _ =>
 ((rd h26 (padd x21 0) 0)).bind fun x27 =>
 (sidx x27 x23 3).bind fun q28 =>
 (L.asBool (rd h26 (padd q28 1) 0)).bind fun x29 =>
 (if (!x29) = true then (
 (L.asInt .i64 (rd h26 (padd q28 0) 0)).bind fun x32 =>
 some ((decide (x32 < 4611686018427387903)), h26))
 else (
 some (false, h26))).bind fun (b30, h31) =>
 (if b30 = true then (
 (wr h31 (padd q28 1) [(.bool true)]).bind fun h33 =>
 (L.asInt .i64 (rd h33 (padd q28 0) 0)).bind fun x34 =>
 (wr h33 (padd q28 0) [(.int .i64 (IntKind.i64.wrap (x34 + 1)))]).bind fun h35 =>
 (F154 N (x21, x23, h35)).bind fun (x36, x37, _) =>
 some (.inr (0, x36, x37, h35)))
 else (
 L115_0 N n (x21, x22, (IntKind.i64.wrap (x23 + 1)), x24, x25, h31))))
 else (
 some (.inl h26)))
def F115 (N : Nat) : V × H → Option (Int × Int × Int × H)
 | (a0, h) =>
 (F126 N (a0, h)).bind fun (x1, _) =>
 (if (!x1) = true then (
 none)
 else (
 (nck a0).bind fun _ =>
 ((rd h (padd a0 0) 0)).bind fun x2 =>
 (slen x2).bind fun n3 =>
 (L115_0 N N (a0, n3, 0, 0, 0, h)).bind fun o38 => match o38 with
 | .inl h39 => (
 none)
 | .inr (x40, x41, x42, h43) => (
 some (x41, x42, x40, h43))))
abbrev ks115 : List SK := [.one .ref]
abbrev rs115 : List SK := [.agg [(.int .i64), (.int .i64)], .one (.int .i64)]
def e115 (N : Nat) : Env := ⟨Tryz.prog, 51, inTab [2], inTab [], natTab [(2, 2)], inTab [], calTab [(126, .ro (mkFun ks126 rs126 (F126 N))), (154, .ro (mkFun ks154 rs154 (F154 N)))], altTab [], loopTab [(4, ⟨⟨.normal, [0, 2, 14, 15], [.one .ref, .lp 2 0, .one (.int .i64), .one (.int .i64)], [2], [.cells [(.int .i64), (.int .i64)]]⟩, [⟨(.exit 0), [], [], [], []⟩, ⟨.ret, [2, 3], [.lp 2 0, .one (.int .i64)], [2], [.cells [(.int .i64), (.int .i64)]]⟩], L115_0 N⟩)], natTab [], inTab [2, 12]⟩
theorem l115_0 (N : Nat) : ∀ A, (e115 N).lp (lid (loopAt Tryz.f115 0)) = some A → LoopOk (e115 N) N (loopAt Tryz.f115 0) A :=
  loopOk_of (A := ⟨⟨.normal, [0, 2, 14, 15], [.one .ref, .lp 2 0, .one (.int .i64), .one (.int .i64)], [2], [.cells [(.int .i64), (.int .i64)]]⟩, [⟨(.exit 0), [], [], [], []⟩, ⟨.ret, [2, 3], [.lp 2 0, .one (.int .i64)], [2], [.cells [(.int .i64), (.int .i64)]]⟩], L115_0 N⟩) (by kernel_rfl) (fun _ => rfl) (fun _ _ => by kernel_rfl)
theorem fine115 (N : Nat) : Fine (e115 N) N 115 Tryz.f115 ks115 rs115 (F115 N) :=
  ⟨Tryz.func115, by kernel_rfl, by kernel_rfl, by kernel_rfl, loops_of ⟨l115_0 N, trivial⟩, by kernel_rfl, by kernel_rfl, fun _ => by kernel_rfl⟩
theorem good115 (N : Nat) : Go.L.Good (e115 N) := good_of ⟨gd126 N, ⟨gd154 N, trivial⟩⟩
theorem gd115 (N : Nat) : CalOk Tryz.prog 115 (.full (mkFun ks115 rs115 (F115 N))) := mkFun_good (fine115 N) (good115 N)

/-! ### 209: homes.Accounts).has -/
def F209 (N : Nat) : V × Int × Int × H → Option (Bool × H)
 | (a0, a1, a2, h) =>
 (isNil a0).bind fun b1 =>
 (if (!b1) = true then (
 some ((decide (a1 ≥ 0)), h))
 else (
 some (false, h))).bind fun (b2, h3) =>
 (if b2 = true then (
 (nck a0).bind fun _ =>
 (L.asInt .i64 (rd h3 (padd a0 0) 0)).bind fun x6 =>
 some ((decide (a1 < x6)), h3))
 else (
 some (false, h3))).bind fun (b4, h5) =>
 (if b4 = true then (
 some ((decide (a2 ≥ 0)), h5))
 else (
 some (false, h5))).bind fun (b7, h8) =>
 (if b7 = true then (
 some ((decide (a2 < 3)), h8))
 else (
 some (false, h8))).bind fun (b9, h10) =>
 some (b9, h10)
abbrev ks209 : List SK := [.one .ref, .one (.int .i64), .one (.int .i64)]
abbrev rs209 : List SK := [.one .bool]
def e209 (N : Nat) : Env := ⟨Tryz.prog, 29, inTab [], inTab [], natTab [], inTab [], calTab [], altTab [], loopTab [], natTab [], inTab []⟩
theorem fine209 (N : Nat) : Fine (e209 N) N 209 Tryz.f209 ks209 rs209 (F209 N) :=
  ⟨Tryz.func209, by kernel_rfl, by kernel_rfl, by kernel_rfl, loops_of trivial, by kernel_rfl, by kernel_rfl, fun _ => by kernel_rfl⟩
theorem good209 (N : Nat) : Go.L.Good (e209 N) := good_of trivial
theorem gd209 (N : Nat) : CalOk Tryz.prog 209 (.ro (mkFun ks209 rs209 (F209 N))) := mkFun_ro (fine209 N) (good209 N) (by kernel_rfl)

/-! ### 95: homes.Accounts).Take -/
def F95 (N : Nat) : V × Int × Int × H → Option (Int × H)
 | (a0, a1, a2, h) =>
 (F209 N (a0, a1, a2, h)).bind fun (x1, _) =>
 (if (!x1) = true then (
 none)
 else (
 (nck a0).bind fun _ =>
 (aidx (padd a0 1) a1 16 3).bind fun q2 =>
 (aidx q2 a2 3 1).bind fun q3 =>
 (L.asInt .i64 (rd h q3 0)).bind fun x4 =>
 (if (decide (x4 ≥ 64)) = true then (
 none)
 else (
 (nck a0).bind fun _ =>
 (aidx (padd a0 1) a1 16 3).bind fun q5 =>
 (aidx q5 a2 3 1).bind fun q6 =>
 (L.asInt .i64 (rd h q6 0)).bind fun x7 =>
 (nck a0).bind fun _ =>
 (aidx (padd a0 1) a1 16 3).bind fun q8 =>
 (aidx q8 a2 3 1).bind fun q9 =>
 (wr h q9 [(.int .i64 (IntKind.i64.wrap (x7 + 1)))]).bind fun h10 =>
 some (0, h10)))))
abbrev ks95 : List SK := [.one .ref, .one (.int .i64), .one (.int .i64)]
abbrev rs95 : List SK := [.one (.int .i64)]
def e95 (N : Nat) : Env := ⟨Tryz.prog, 34, inTab [], inTab [], natTab [], inTab [], calTab [(209, .ro (mkFun ks209 rs209 (F209 N)))], altTab [], loopTab [], natTab [], inTab [2, 4]⟩
theorem fine95 (N : Nat) : Fine (e95 N) N 95 Tryz.f95 ks95 rs95 (F95 N) :=
  ⟨Tryz.func95, by kernel_rfl, by kernel_rfl, by kernel_rfl, loops_of trivial, by kernel_rfl, by kernel_rfl, fun _ => by kernel_rfl⟩
theorem good95 (N : Nat) : Go.L.Good (e95 N) := good_of ⟨gd209 N, trivial⟩
theorem gd95 (N : Nat) : CalOk Tryz.prog 95 (.full (mkFun ks95 rs95 (F95 N))) := mkFun_good (fine95 N) (good95 N)

/-! ### 116: box.New -/
def F116 (N : Nat) : H → Option (V × H)
 | h =>
 (some (h ++ [O.cells 0 [(.bool true), .nils, .nils, (.int .i64 0), (.int .i64 0)]]) : Option H).bind fun h1 =>
 some ((.ptr (h).length 0 0), h1)
abbrev ks116 : List SK := []
abbrev rs116 : List SK := [.one .ref]
def e116 (N : Nat) : Env := ⟨Tryz.prog, 3, inTab [], inTab [], natTab [], inTab [], calTab [], altTab [], loopTab [], natTab [], inTab []⟩
theorem fine116 (N : Nat) : Fine (e116 N) N 116 Tryz.f116 ks116 rs116 (F116 N) :=
  ⟨Tryz.func116, by kernel_rfl, by kernel_rfl, by kernel_rfl, loops_of trivial, by kernel_rfl, by kernel_rfl, fun _ => by kernel_rfl⟩
theorem good116 (N : Nat) : Go.L.Good (e116 N) := good_of trivial
theorem gdg116 (N : Nat) : CalOk Tryz.prog 116 (.gro (mkFun ks116 rs116 (F116 N))) := mkFun_groC (fine116 N) (good116 N) (by kernel_rfl)

/-! ### 129: core.Core).given -/
def F129 (N : Nat) : V × H → Option (Bool × H)
 | (a0, h) =>
 (isNil a0).bind fun b1 =>
 (if (!b1) = true then (
 (nck a0).bind fun _ =>
 ((rd h (padd a0 0) 0)).bind fun x4 =>
 (slen x4).bind fun n5 =>
 some ((decide (n5 > 0)), h))
 else (
 some (false, h))).bind fun (b2, h3) =>
 some (b2, h3)
abbrev ks129 : List SK := [.one .ref]
abbrev rs129 : List SK := [.one .bool]
def e129 (N : Nat) : Env := ⟨Tryz.prog, 13, inTab [], inTab [], natTab [], inTab [], calTab [], altTab [], loopTab [], natTab [], inTab []⟩
theorem fine129 (N : Nat) : Fine (e129 N) N 129 Tryz.f129 ks129 rs129 (F129 N) :=
  ⟨Tryz.func129, by kernel_rfl, by kernel_rfl, by kernel_rfl, loops_of trivial, by kernel_rfl, by kernel_rfl, fun _ => by kernel_rfl⟩
theorem good129 (N : Nat) : Go.L.Good (e129 N) := good_of trivial
theorem gd129 (N : Nat) : CalOk Tryz.prog 129 (.ro (mkFun ks129 rs129 (F129 N))) := mkFun_ro (fine129 N) (good129 N) (by kernel_rfl)

/-! ### 130: core.class -/
def F130 (N : Nat) : Int × H → Option (Bool × H)
 | (a0, h) =>
 (if (decide (a0 ≥ 0)) = true then (
 some ((decide (a0 < 3)), h))
 else (
 some (false, h))).bind fun (b1, h2) =>
 some (b1, h2)
abbrev ks130 : List SK := [.one (.int .i64)]
abbrev rs130 : List SK := [.one .bool]
def e130 (N : Nat) : Env := ⟨Tryz.prog, 9, inTab [], inTab [], natTab [], inTab [], calTab [], altTab [], loopTab [], natTab [], inTab []⟩
theorem fine130 (N : Nat) : Fine (e130 N) N 130 Tryz.f130 ks130 rs130 (F130 N) :=
  ⟨Tryz.func130, by kernel_rfl, by kernel_rfl, by kernel_rfl, loops_of trivial, by kernel_rfl, by kernel_rfl, fun _ => by kernel_rfl⟩
theorem good130 (N : Nat) : Go.L.Good (e130 N) := good_of trivial
theorem gd130 : CalOk Tryz.prog 130 (.pure (mkP ks130 rs130 (F130 100))) := mkP_good (fine130 100) (good130 100) (by kernel_rfl) (by kernel_rfl)

/-! ### 249: api.Entry]).lives -/
def F249 (N : Nat) : V × H → Option (Bool × H)
 | (a0, h) =>
 (isNil a0).bind fun b1 =>
 (if (!b1) = true then (
 (nck a0).bind fun _ =>
 (L.asInt .i64 (rd h (padd a0 0) 0)).bind fun x4 =>
 some ((decide (x4 > 0)), h))
 else (
 some (false, h))).bind fun (b2, h3) =>
 some (b2, h3)
abbrev ks249 : List SK := [.one .ref]
abbrev rs249 : List SK := [.one .bool]
def e249 (N : Nat) : Env := ⟨Tryz.prog, 12, inTab [], inTab [], natTab [], inTab [], calTab [], altTab [], loopTab [], natTab [], inTab []⟩
theorem fine249 (N : Nat) : Fine (e249 N) N 249 Tryz.f249 ks249 rs249 (F249 N) :=
  ⟨Tryz.func249, by kernel_rfl, by kernel_rfl, by kernel_rfl, loops_of trivial, by kernel_rfl, by kernel_rfl, fun _ => by kernel_rfl⟩
theorem good249 (N : Nat) : Go.L.Good (e249 N) := good_of trivial
theorem gd249 (N : Nat) : CalOk Tryz.prog 249 (.ro (mkFun ks249 rs249 (F249 N))) := mkFun_ro (fine249 N) (good249 N) (by kernel_rfl)

/-! ### 250: api.Entry] -/
def F250 (N : Nat) : V × H → Option (V × H)
 | (a0, h) =>
 (slen a0).bind fun n1 =>
 (if 0 ≤ n1 then (if n1 ≤ n1 then (if n1 * ((3 : Nat) : Int) ≤ ((mostCells : Nat) : Int) then (
 (some (h ++ [O.cells 0 (repeatC (Int.toNat n1) [(.int .i64 0), (.int .i64 0), (.bool false)])]) : Option H).bind fun h2 =>
 (scells h2 a0 3).bind fun cs4 =>
 (if snlen a0 ≤ snlen (.sl (h).length 0 0 (Int.toNat n1) 3 (some (Int.toNat n1))) then (
 (hwrAll h2 (.sl (h).length 0 0 (Int.toNat n1) 3 (some (Int.toNat n1))) 3 cs4).bind fun h3 =>
 (slen a0).bind fun n5 =>
 (slen a0).bind fun n6 =>
 (slen (.sl (h).length 0 0 (Int.toNat n1) 3 (some (Int.toNat n1)))).bind fun n7 =>
 (ssl3 3 (.sl (h).length 0 0 (Int.toNat n1) 3 (some (Int.toNat n1))) 0 n5 n6).bind fun v8 =>
 some (v8, h3)) else none)) else none) else none) else none)
abbrev ks250 : List SK := [.one .ref]
abbrev rs250 : List SK := [.one .ref]
def e250 (N : Nat) : Env := ⟨Tryz.prog, 16, inTab [], inTab [], natTab [], inTab [], calTab [], altTab [], loopTab [], natTab [], inTab []⟩
theorem fine250 (N : Nat) : Fine (e250 N) N 250 Tryz.f250 ks250 rs250 (F250 N) :=
  ⟨Tryz.func250, by kernel_rfl, by kernel_rfl, by kernel_rfl, loops_of trivial, by kernel_rfl, by kernel_rfl, fun _ => by kernel_rfl⟩
theorem good250 (N : Nat) : Go.L.Good (e250 N) := good_of trivial
theorem gd250 (N : Nat) : CalOk Tryz.prog 250 (.full (mkFun ks250 rs250 (F250 N))) := mkFun_good (fine250 N) (good250 N)
theorem gl250 (N : Nat) : CalOk Tryz.prog 250 (.gro (mkFun ks250 rs250 (locF true ks250 rs250 (F250 N)))) := loc_gro (gd250 N)

/-! ### 131: api.Entry]).Items -/
def F131 (N : Nat) : V × H → Option (V × H)
 | (a0, h) =>
 (F249 N (a0, h)).bind fun (x1, _) =>
 (if (!x1) = true then (
 none)
 else (
 (nck a0).bind fun _ =>
 ((rd h (padd a0 1) 0)).bind fun x2 =>
 Option.bind (α := (V × H)) (locF true ks250 rs250 (F250 N) ((x2, h) : V × H)) fun (x3, h4) =>
 some (x3, h4)))
abbrev ks131 : List SK := [.one .ref]
abbrev rs131 : List SK := [.one .ref]
def e131 (N : Nat) : Env := ⟨Tryz.prog, 11, inTab [], inTab [], natTab [], inTab [], calTab [(249, .ro (mkFun ks249 rs249 (F249 N))), (250, .gro (mkFun ks250 rs250 (locF true ks250 rs250 (F250 N))))], altTab [], loopTab [], natTab [], inTab [2]⟩
theorem fine131 (N : Nat) : Fine (e131 N) N 131 Tryz.f131 ks131 rs131 (F131 N) :=
  ⟨Tryz.func131, by kernel_rfl, by kernel_rfl, by kernel_rfl, loops_of trivial, by kernel_rfl, by kernel_rfl, fun _ => by kernel_rfl⟩
theorem good131 (N : Nat) : Go.L.Good (e131 N) := good_of ⟨gd249 N, ⟨gl250 N, trivial⟩⟩
theorem gdg131 (N : Nat) : CalOk Tryz.prog 131 (.gro (mkFun ks131 rs131 (F131 N))) := mkFun_groC (fine131 N) (good131 N) (by kernel_rfl)

/-! ### 261: core.Core).Find$1 -/
def F261 (N : Nat) : Int × Int × Bool × V × H → Option (Bool × H)
 | (a0_0, a0_1, a0_2, a1, h) =>
 (L.asInt .i64 (rd h a1 0)).bind fun x1 =>
 (L.asInt .i64 (rd h a1 1)).bind fun x2 =>
 some (((a0_0 == x1) && ((a0_1 == x2) && true)), h)
abbrev ks261 : List SK := [.agg [(.int .i64), (.int .i64), .bool], .one .ref]
abbrev rs261 : List SK := [.one .bool]
def e261 (N : Nat) : Env := ⟨Tryz.prog, 8, inTab [2], inTab [], natTab [(2, 2), (4, 2)], inTab [], calTab [], altTab [], loopTab [], natTab [], inTab []⟩
theorem fine261 (N : Nat) : Fine (e261 N) N 261 Tryz.f261 ks261 rs261 (F261 N) :=
  ⟨Tryz.func261, by kernel_rfl, by kernel_rfl, by kernel_rfl, loops_of trivial, by kernel_rfl, by kernel_rfl, fun _ => by kernel_rfl⟩
theorem good261 (N : Nat) : Go.L.Good (e261 N) := good_of trivial
theorem gd261 (N : Nat) : CalOk Tryz.prog 261 (.ro (mkFun ks261 rs261 (F261 N))) := mkFun_ro (fine261 N) (good261 N) (by kernel_rfl)

/-! ### 260: api.Entry] -/
abbrev rs260_16 : List SK := [.one .bool]
def D260_16 (N : Nat) : List (Nat × (List V → H → Option (Tup rs260_16 H))) := [(261, (mkFun ks261 rs261 (F261 N)).F)]
theorem dg260_16 (N : Nat) : CalOk Tryz.prog 16777232 (.dyn (dynF rs260_16 (D260_16 N))) := dyn_good ⟨mkFun_good (fine261 N) (good261 N), trivial⟩
def L260_0 (N : Nat) : Nat → V × V × Int × Int × H → Option (H)
 | 0, _ => none
 | n + 1, (x13, x14, x15, x16, h17) =>
 (if (decide (x16 < x15)) = true then (
 (sidx x13 x16 3).bind fun q18 =>
 (L.asInt .i64 (rd h17 q18 0)).bind fun x19 =>
 (L.asInt .i64 (rd h17 q18 1)).bind fun x20 =>
 (L.asBool (rd h17 q18 2)).bind fun x21 =>
 Option.bind (α := Bool × H) (dynC rs260_16 (D260_16 N) x14 [(.agg [(.int .i64 x19), (.int .i64 x20), (.bool x21)])] h17) fun (x22, h23) =>
 (if x22 = true then (
 none)
 else (
 L260_0 N n (x13, x14, x15, (IntKind.i64.wrap (x16 + 1)), h23))))
 else (
 some h17))
def F260 (N : Nat) : V × V × H → Option (Int × H)
 | (a0, a1, h) =>
 (slen a0).bind fun n1 =>
 (L260_0 N N (a0, a1, n1, 0, h)).bind fun h24 =>
 some ((-1), h24)
abbrev ks260 : List SK := [.one .ref, .one .ref]
abbrev rs260 : List SK := [.one (.int .i64)]
def e260 (N : Nat) : Env := ⟨Tryz.prog, 19, inTab [], inTab [], natTab [], inTab [], calTab [(16777232, .dyn (dynF rs260_16 (D260_16 N)))], altTab [], loopTab [(2, ⟨⟨.normal, [0, 1, 7, 8], [.one .ref, .one .ref, .one (.int .i64), .one (.int .i64)], [], []⟩, [⟨(.exit 0), [], [], [], []⟩], L260_0 N⟩)], natTab [], inTab [5]⟩
theorem l260_0 (N : Nat) : ∀ A, (e260 N).lp (lid (loopAt Tryz.f260 0)) = some A → LoopOk (e260 N) N (loopAt Tryz.f260 0) A :=
  loopOk_of (A := ⟨⟨.normal, [0, 1, 7, 8], [.one .ref, .one .ref, .one (.int .i64), .one (.int .i64)], [], []⟩, [⟨(.exit 0), [], [], [], []⟩], L260_0 N⟩) (by kernel_rfl) (fun _ => rfl) (fun _ _ => by kernel_rfl)
theorem fine260 (N : Nat) : Fine (e260 N) N 260 Tryz.f260 ks260 rs260 (F260 N) :=
  ⟨Tryz.func260, by kernel_rfl, by kernel_rfl, by kernel_rfl, loops_of ⟨l260_0 N, trivial⟩, by kernel_rfl, by kernel_rfl, fun _ => by kernel_rfl⟩
theorem good260 (N : Nat) : Go.L.Good (e260 N) := good_of ⟨dg260_16 N, trivial⟩
theorem gd260 (N : Nat) : CalOk Tryz.prog 260 (.full (mkFun ks260 rs260 (F260 N))) := mkFun_good (fine260 N) (good260 N)

/-! ### 149: core.Core).Find -/
def L149_0 (N : Nat) : Nat → V × V × Int × H → Option (H)
 | 0, _ => none
 | n + 1, (x13, x14, x15, h16) =>
 (if (decide (x15 < 3)) = true then (
 (nck x13).bind fun _ =>
 (aidx (padd x13 2) x15 3 1).bind fun q17 =>
 ((rd h16 (padd q17 0) 0)).bind fun x18 =>
 (F131 N (x18, h16)).bind fun (x19, h20) =>
 (F260 N (x19, (.fn 261 [x14]), h20)).bind fun (x21, h22) =>
 (if (decide (x21 ≥ 0)) = true then (
 none)
 else (
 L149_0 N n (x13, x14, (IntKind.i64.wrap (x15 + 1)), h22))))
 else (
 some h16))
def F149 (N : Nat) : V × Int × Int × H → Option (Int × Int × Int × H)
 | (a0, a1_0, a1_1, h) =>
 (some (h ++ [O.cells 0 [(.int .i64 a1_0), (.int .i64 a1_1)]]) : Option H).bind fun h1 =>
 (F129 N (a0, h1)).bind fun (x2, _) =>
 (if (!x2) = true then (
 none)
 else (
 (L149_0 N N (a0, (.ptr (h).length 0 0), 0, h1)).bind fun h23 =>
 some (0, 0, 3, h23)))
abbrev ks149 : List SK := [.one .ref, .agg [(.int .i64), (.int .i64)]]
abbrev rs149 : List SK := [.one (.int .i64), .one (.int .i64), .one (.int .i64)]
def e149 (N : Nat) : Env := ⟨Tryz.prog, 30, inTab [], inTab [], natTab [], inTab [], calTab [(129, .ro (mkFun ks129 rs129 (F129 N))), (131, .gro (mkFun ks131 rs131 (F131 N))), (260, .full (mkFun ks260 rs260 (F260 N)))], altTab [], loopTab [(4, ⟨⟨.normal, [0, 3, 12], [.one .ref, .one .ref, .one (.int .i64)], [], []⟩, [⟨(.exit 0), [], [], [], []⟩], L149_0 N⟩)], natTab [], inTab [2, 8]⟩
theorem l149_0 (N : Nat) : ∀ A, (e149 N).lp (lid (loopAt Tryz.f149 0)) = some A → LoopOk (e149 N) N (loopAt Tryz.f149 0) A :=
  loopOk_of (A := ⟨⟨.normal, [0, 3, 12], [.one .ref, .one .ref, .one (.int .i64)], [], []⟩, [⟨(.exit 0), [], [], [], []⟩], L149_0 N⟩) (by kernel_rfl) (fun _ => rfl) (fun _ _ => by kernel_rfl)
theorem fine149 (N : Nat) : Fine (e149 N) N 149 Tryz.f149 ks149 rs149 (F149 N) :=
  ⟨Tryz.func149, by kernel_rfl, by kernel_rfl, by kernel_rfl, loops_of ⟨l149_0 N, trivial⟩, by kernel_rfl, by kernel_rfl, fun _ => by kernel_rfl⟩
theorem good149 (N : Nat) : Go.L.Good (e149 N) := good_of ⟨gd129 N, ⟨gdg131 N, ⟨gd260 N, trivial⟩⟩⟩
theorem gd149 (N : Nat) : CalOk Tryz.prog 149 (.full (mkFun ks149 rs149 (F149 N))) := mkFun_good (fine149 N) (good149 N)

/-! ### 264: core.Core).stands -/
def F264 (N : Nat) : V × Int × Int × H → Option (Bool × H)
 | (a0, a1_0, a1_1, h) =>
 (F149 N (a0, a1_0, a1_1, h)).bind fun (x1, x2, x3, h4) =>
 some ((x3 == 0), h4)
abbrev ks264 : List SK := [.one .ref, .agg [(.int .i64), (.int .i64)]]
abbrev rs264 : List SK := [.one .bool]
def e264 (N : Nat) : Env := ⟨Tryz.prog, 17, inTab [3], inTab [], natTab [(3, 3)], inTab [], calTab [(149, .full (mkFun ks149 rs149 (F149 N)))], altTab [], loopTab [], natTab [], inTab []⟩
theorem fine264 (N : Nat) : Fine (e264 N) N 264 Tryz.f264 ks264 rs264 (F264 N) :=
  ⟨Tryz.func264, by kernel_rfl, by kernel_rfl, by kernel_rfl, loops_of trivial, by kernel_rfl, by kernel_rfl, fun _ => by kernel_rfl⟩
theorem good264 (N : Nat) : Go.L.Good (e264 N) := good_of ⟨gd149 N, trivial⟩
theorem gd264 (N : Nat) : CalOk Tryz.prog 264 (.full (mkFun ks264 rs264 (F264 N))) := mkFun_good (fine264 N) (good264 N)

/-! ### 441: api.Entry]).Room -/
def F441 (N : Nat) : V × H → Option (Int × H)
 | (a0, h) =>
 (F249 N (a0, h)).bind fun (x1, _) =>
 (if (!x1) = true then (
 none)
 else (
 (nck a0).bind fun _ =>
 (L.asInt .i64 (rd h (padd a0 0) 0)).bind fun x2 =>
 (nck a0).bind fun _ =>
 ((rd h (padd a0 1) 0)).bind fun x3 =>
 (slen x3).bind fun n4 =>
 some ((IntKind.i64.wrap (x2 - n4)), h)))
abbrev ks441 : List SK := [.one .ref]
abbrev rs441 : List SK := [.one (.int .i64)]
def e441 (N : Nat) : Env := ⟨Tryz.prog, 16, inTab [], inTab [], natTab [], inTab [], calTab [(249, .ro (mkFun ks249 rs249 (F249 N)))], altTab [], loopTab [], natTab [], inTab [2]⟩
theorem fine441 (N : Nat) : Fine (e441 N) N 441 Tryz.f441 ks441 rs441 (F441 N) :=
  ⟨Tryz.func441, by kernel_rfl, by kernel_rfl, by kernel_rfl, loops_of trivial, by kernel_rfl, by kernel_rfl, fun _ => by kernel_rfl⟩
theorem good441 (N : Nat) : Go.L.Good (e441 N) := good_of ⟨gd249 N, trivial⟩
theorem gd441 (N : Nat) : CalOk Tryz.prog 441 (.ro (mkFun ks441 rs441 (F441 N))) := mkFun_ro (fine441 N) (good441 N) (by kernel_rfl)

/-! ### 358: api.Entry]).Join -/
def F358 (N : Nat) : V × V × H → Option (Int × H)
 | (a0, a1, h) =>
 (F249 N (a0, h)).bind fun (x1, _) =>
 (if (!x1) = true then (
 none)
 else (
 (slen a1).bind fun n2 =>
 (F441 N (a0, h)).bind fun (x3, _) =>
 (if (decide (n2 > x3)) = true then (
 none)
 else (
 (nck a0).bind fun _ =>
 ((rd h (padd a0 1) 0)).bind fun x4 =>
 (scells h a1 3).bind fun cs7 =>
 (happ h x4 3 (snlen a1) cs7).bind fun (v5, h6) =>
 (nck a0).bind fun _ =>
 (ck1 v5).bind fun _ =>
 (wr h6 (padd a0 1) [v5]).bind fun h8 =>
 some (0, h8)))))
abbrev ks358 : List SK := [.one .ref, .one .ref]
abbrev rs358 : List SK := [.one (.int .i64)]
def e358 (N : Nat) : Env := ⟨Tryz.prog, 22, inTab [], inTab [], natTab [], inTab [], calTab [(249, .ro (mkFun ks249 rs249 (F249 N))), (441, .ro (mkFun ks441 rs441 (F441 N)))], altTab [], loopTab [], natTab [], inTab [2, 4]⟩
theorem fine358 (N : Nat) : Fine (e358 N) N 358 Tryz.f358 ks358 rs358 (F358 N) :=
  ⟨Tryz.func358, by kernel_rfl, by kernel_rfl, by kernel_rfl, loops_of trivial, by kernel_rfl, by kernel_rfl, fun _ => by kernel_rfl⟩
theorem good358 (N : Nat) : Go.L.Good (e358 N) := good_of ⟨gd249 N, ⟨gd441 N, trivial⟩⟩
theorem gd358 (N : Nat) : CalOk Tryz.prog 358 (.full (mkFun ks358 rs358 (F358 N))) := mkFun_good (fine358 N) (good358 N)

/-! ### 265: api.Entry]).Push -/
def F265 (N : Nat) : V × Int × Int × Bool × H → Option (Int × H)
 | (a0, a1_0, a1_1, a1_2, h) =>
 (some (h ++ [O.cells 0 [(.int .i64 a1_0), (.int .i64 a1_1), (.bool a1_2)]]) : Option H).bind fun h1 =>
 (F358 N (a0, (.sl (h).length 0 0 1 3 (some 1)), h1)).bind fun (x2, h3) =>
 some (x2, h3)
abbrev ks265 : List SK := [.one .ref, .agg [(.int .i64), (.int .i64), .bool]]
abbrev rs265 : List SK := [.one (.int .i64)]
def e265 (N : Nat) : Env := ⟨Tryz.prog, 9, inTab [3], inTab [], natTab [(3, 3)], inTab [], calTab [(358, .full (mkFun ks358 rs358 (F358 N)))], altTab [], loopTab [], natTab [], inTab []⟩
theorem fine265 (N : Nat) : Fine (e265 N) N 265 Tryz.f265 ks265 rs265 (F265 N) :=
  ⟨Tryz.func265, by kernel_rfl, by kernel_rfl, by kernel_rfl, loops_of trivial, by kernel_rfl, by kernel_rfl, fun _ => by kernel_rfl⟩
theorem good265 (N : Nat) : Go.L.Good (e265 N) := good_of ⟨gd358 N, trivial⟩
theorem gd265 (N : Nat) : CalOk Tryz.prog 265 (.full (mkFun ks265 rs265 (F265 N))) := mkFun_good (fine265 N) (good265 N)


end
end Go.Proofs.YtgipaccfnlklcaaGreat
