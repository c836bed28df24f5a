/- The functions that the law reaches, as plain ones (printed by gen.py). -/
import Derived.Test.YtgipaccfnlklcaaGreatDoorLD
import Derived.Test.YtgipaccfnlklcaaGreatDoorProg
import Derived.KernelRfl
set_option linter.unusedVariables false
set_option maxRecDepth 100000
namespace Go.Proofs.YtgipaccfnlklcaaGreatDoor
noncomputable section
open Go.L

/-! ### 209: term.atom -/
def L209_0 (N : Nat) : Nat → ByteArray × Int × H → Option (H)
 | 0, _ => none
 | n + 1, (x27, x28, h29) =>
 (if (decide (x28 < ((x27).size : Int))) = true then (
 (if 0 ≤ x28 then (x27[Int.toNat x28]?.bind fun c30 =>
 (if (decide (((UInt8.toNat c30 : Nat) : Int) ≥ 97)) = true then (
 some ((decide (((UInt8.toNat c30 : Nat) : Int) ≤ 122)), h29))
 else (
 some (false, h29))).bind fun (b31, h32) =>
 (if b31 = true then (
 some (true, h32))
 else (
 (if (decide (x28 > 0)) = true then (
 (if (decide (((UInt8.toNat c30 : Nat) : Int) ≥ 65)) = true then (
 some ((decide (((UInt8.toNat c30 : Nat) : Int) ≤ 90)), h32))
 else (
 some (false, h32))).bind fun (b37, h38) =>
 (if b37 = true then (
 some (true, h38))
 else (
 (if (decide (((UInt8.toNat c30 : Nat) : Int) ≥ 48)) = true then (
 some ((decide (((UInt8.toNat c30 : Nat) : Int) ≤ 57)), h38))
 else (
 some (false, h38))).bind fun (b41, h42) =>
 some (b41, h42))).bind fun (b39, h40) =>
 (if b39 = true then (
 some (true, h40))
 else (
 some ((((UInt8.toNat c30 : Nat) : Int) == 95), h40))).bind fun (b43, h44) =>
 some (b43, h44))
 else (
 some (false, h32))).bind fun (b35, h36) =>
 some (b35, h36))).bind fun (b33, h34) =>
 (if b33 = true then (
 L209_0 N n (x27, (IntKind.i64.wrap (x28 + 1)), h34))
 else (
 none))) else none))
 else (
 some h29))
def F209 (N : Nat) : ByteArray × H → Option (Bool × H)
 | (a0, h) =>
 (if (decide (((a0).size : Int) < 1)) = true then (
 some (true, h))
 else (
 some ((decide (((a0).size : Int) > 64)), h))).bind fun (b1, h2) =>
 (if b1 = true then (
 some (true, h2))
 else (
 some (((a0).toList == ((ByteArray.mk #[110, 105, 108])).toList), h2))).bind fun (b3, h4) =>
 (if b3 = true then (
 some (true, h4))
 else (
 some (((a0).toList == ((ByteArray.mk #[116, 114, 117, 101])).toList), h4))).bind fun (b5, h6) =>
 (if b5 = true then (
 some (true, h6))
 else (
 some (((a0).toList == ((ByteArray.mk #[102, 97, 108, 115, 101])).toList), h6))).bind fun (b7, h8) =>
 (if b7 = true then (
 none)
 else (
 (L209_0 N N (a0, 0, h8)).bind fun h45 =>
 some (true, h45)))
abbrev ks209 : List SK := [.one .str]
abbrev rs209 : List SK := [.one .bool]
def e209 (N : Nat) : Env := ⟨Tryz.prog, 64, inTab [], inTab [], natTab [], inTab [], calTab [], altTab [], loopTab [(4, ⟨⟨.normal, [0, 3], [.one .str, .one (.int .i64)], [], []⟩, [⟨(.exit 0), [], [], [], []⟩], L209_0 N⟩)], natTab [], inTab [2, 8]⟩
theorem l209_0 (N : Nat) : ∀ A, (e209 N).lp (lid (loopAt Tryz.f209 0)) = some A → LoopOk (e209 N) N (loopAt Tryz.f209 0) A :=
  loopOk_of (A := ⟨⟨.normal, [0, 3], [.one .str, .one (.int .i64)], [], []⟩, [⟨(.exit 0), [], [], [], []⟩], L209_0 N⟩) (by kernel_rfl) (fun _ => rfl) (fun _ _ => by kernel_rfl)
theorem fine209 (N : Nat) : Fine (e209 N) N 209 Tryz.f209 ks209 rs209 (F209 N) :=
  ⟨Tryz.func209, by kernel_rfl, by kernel_rfl, by kernel_rfl, loops_of ⟨l209_0 N, trivial⟩, by kernel_rfl, by kernel_rfl, fun _ => by kernel_rfl⟩
theorem good209 (N : Nat) : Go.L.Good (e209 N) := good_of trivial
theorem gd209 : CalOk Tryz.prog 209 (.pure (mkP ks209 rs209 (F209 100))) := mkP_good (fine209 100) (good209 100) (by kernel_rfl) (by kernel_rfl)

/-! ### 207: term.own$1 -/
def F207 (N : Nat) : Bool × Bool × Bool × Bool × Bool × V × H → Option (Bool × H)
 | (a0, a1, a2, a3, a4, a5, h) =>
 (if a0 = true then (
 some (true, h))
 else (
 (nck a5).bind fun _ =>
 (L.asInt .i64 (rd h (padd a5 1) 0)).bind fun x3 =>
 some ((x3 == 0), h))).bind fun (b1, h2) =>
 (if b1 = true then (
 (if a1 = true then (
 some (true, h2))
 else (
 (nck a5).bind fun _ =>
 (L.asCplx .f64 (rd h2 (padd a5 2) 0)).bind fun x8 =>
 some ((Op.floatEq .f64 x8.1 0 && Op.floatEq .f64 x8.2 0), h2))).bind fun (b6, h7) =>
 some (b6, h7))
 else (
 some (false, h2))).bind fun (b4, h5) =>
 (if b4 = true then (
 (if a2 = true then (
 some (true, h5))
 else (
 (nck a5).bind fun _ =>
 (L.asStr (rd h5 (padd a5 3) 0)).bind fun x13 =>
 some (((x13).toList == ((ByteArray.mk #[])).toList), h5))).bind fun (b11, h12) =>
 some (b11, h12))
 else (
 some (false, h5))).bind fun (b9, h10) =>
 (if b9 = true then (
 (if a3 = true then (
 some (true, h10))
 else (
 (nck a5).bind fun _ =>
 (L.asInt .i64 (rd h10 (padd a5 4) 0)).bind fun x18 =>
 (L.asInt .i64 (rd h10 (padd a5 4) 1)).bind fun x19 =>
 some (((x18 == 0) && ((x19 == 0) && true)), h10))).bind fun (b16, h17) =>
 some (b16, h17))
 else (
 some (false, h10))).bind fun (b14, h15) =>
 (if b14 = true then (
 (if a4 = true then (
 some (true, h15))
 else (
 (nck a5).bind fun _ =>
 ((rd h15 (padd a5 6) 0)).bind fun x24 =>
 (slen x24).bind fun n25 =>
 some ((n25 == 0), h15))).bind fun (b22, h23) =>
 some (b22, h23))
 else (
 some (false, h15))).bind fun (b20, h21) =>
 some (b20, h21)
abbrev ks207 : List SK := [.one .bool, .one .bool, .one .bool, .one .bool, .one .bool, .one .ref]
abbrev rs207 : List SK := [.one .bool]
def e207 (N : Nat) : Env := ⟨Tryz.prog, 52, inTab [], inTab [], natTab [], inTab [], calTab [], altTab [], loopTab [], natTab [], inTab []⟩
theorem fine207 (N : Nat) : Fine (e207 N) N 207 Tryz.f207 ks207 rs207 (F207 N) :=
  ⟨Tryz.func207, by kernel_rfl, by kernel_rfl, by kernel_rfl, loops_of trivial, by kernel_rfl, by kernel_rfl, fun _ => by kernel_rfl⟩
theorem good207 (N : Nat) : Go.L.Good (e207 N) := good_of trivial
theorem gd207 (N : Nat) : CalOk Tryz.prog 207 (.ro (mkFun ks207 rs207 (F207 N))) := mkFun_ro (fine207 N) (good207 N) (by kernel_rfl)

/-! ### 176: term.own -/
abbrev rs176_62 : List SK := [.one .bool]
def D176_62 (N : Nat) : List (Nat × (List V → H → Option (Tup rs176_62 H))) := [(207, (mkFun ks207 rs207 (F207 N)).F)]
theorem dg176_62 (N : Nat) : CalOk Tryz.prog 16777278 (.dyn (dynF rs176_62 (D176_62 N))) := dyn_good ⟨mkFun_good (fine207 N) (good207 N), trivial⟩
abbrev rs176_90 : List SK := [.one .bool]
def D176_90 (N : Nat) : List (Nat × (List V → H → Option (Tup rs176_90 H))) := [(207, (mkFun ks207 rs207 (F207 N)).F)]
theorem dg176_90 (N : Nat) : CalOk Tryz.prog 16777306 (.dyn (dynF rs176_90 (D176_90 N))) := dyn_good ⟨mkFun_good (fine207 N) (good207 N), trivial⟩
def F176 (N : Nat) : Int × Int × (Nat × Nat) × ByteArray × Int × Int × V × H → Option (Bool × H)
 | (a0_0, a0_1, a0_2, a0_3, a0_4, a0_5, a0_6, h) =>
 (some (h ++ [O.cells 0 [(.int .i64 a0_0), (.int .i64 a0_1), (.cplx .f64 a0_2.1 a0_2.2), (.str a0_3), (.int .i64 a0_4), (.int .i64 a0_5), a0_6]]) : Option H).bind fun h1 =>
 (L.asInt .i64 (rd h1 (.ptr (h).length 0 0) 0)).bind fun x2 =>
 (if (x2 == 1) = true then (
 none)
 else (
 (if (x2 == 2) = true then (
 none)
 else (
 (if (x2 == 3) = true then (
 none)
 else (
 (if (x2 == 4) = true then (
 none)
 else (
 (if (x2 == 5) = true then (
 (L.asStr (rd h1 (.ptr (h).length 0 3) 0)).bind fun x3 =>
 (F209 100 (x3, [])).bind fun (x4, _) =>
 (if x4 = true then (
 Option.bind (α := Bool × H) (dynC rs176_62 (D176_62 N) (.fn 207 [(.ptr (h).length 0 0)]) [(.bool false), (.bool false), (.bool true), (.bool false), (.bool false)] h1) fun (x7, h8) =>
 some (x7, h8))
 else (
 some (false, h1))).bind fun (b5, h6) =>
 some (b5, h6))
 else (
 (if (x2 == 6) = true then (
 (L.asInt .i64 (rd h1 (.ptr (h).length 0 4) 0)).bind fun x9 =>
 (if (decide (x9 ≥ 0)) = true then (
 (L.asInt .i64 (rd h1 (.ptr (h).length 0 4) 0)).bind fun x12 =>
 some ((decide (x12 < 256)), h1))
 else (
 some (false, h1))).bind fun (b10, h11) =>
 (if b10 = true then (
 (L.asInt .i64 (rd h11 (.ptr (h).length 0 5) 0)).bind fun x15 =>
 some ((decide (x15 ≥ 1)), h11))
 else (
 some (false, h11))).bind fun (b13, h14) =>
 (if b13 = true then (
 (L.asInt .i64 (rd h14 (.ptr (h).length 0 5) 0)).bind fun x18 =>
 some ((decide (x18 ≤ 4611686018427387903)), h14))
 else (
 some (false, h14))).bind fun (b16, h17) =>
 (if b16 = true then (
 Option.bind (α := Bool × H) (dynC rs176_90 (D176_90 N) (.fn 207 [(.ptr (h).length 0 0)]) [(.bool false), (.bool false), (.bool false), (.bool true), (.bool false)] h17) fun (x21, h22) =>
 some (x21, h22))
 else (
 some (false, h17))).bind fun (b19, h20) =>
 some (b19, h20))
 else (
 none))))))))))))
abbrev ks176 : List SK := [.agg [(.int .i64), (.int .i64), (.cplx .f64), .str, (.int .i64), (.int .i64), .ref]]
abbrev rs176 : List SK := [.one .bool]
def e176 (N : Nat) : Env := ⟨Tryz.prog, 111, inTab [], inTab [], natTab [], inTab [], calTab [(209, .pure (mkP ks209 rs209 (F209 100))), (16777278, .dyn (dynF rs176_62 (D176_62 N))), (16777306, .dyn (dynF rs176_90 (D176_90 N)))], altTab [], loopTab [], natTab [], inTab [4, 6, 8, 10, 15, 16, 17, 18, 19, 20]⟩
theorem fine176 (N : Nat) : Fine (e176 N) N 176 Tryz.f176 ks176 rs176 (F176 N) :=
  ⟨Tryz.func176, by kernel_rfl, by kernel_rfl, by kernel_rfl, loops_of trivial, by kernel_rfl, by kernel_rfl, fun _ => by kernel_rfl⟩
theorem good176 (N : Nat) : Go.L.Good (e176 N) := good_of ⟨gd209, ⟨dg176_62 N, ⟨dg176_90 N, trivial⟩⟩⟩
theorem gd176 (N : Nat) : CalOk Tryz.prog 176 (.full (mkFun ks176 rs176 (F176 N))) := mkFun_good (fine176 N) (good176 N)

/-! ### 146: term.walk -/
def L146_0 (N : Nat) (rec : Int × Int × (Nat × Nat) × ByteArray × Int × Int × V × Int × V × V × H → Option (Int × H)) : Nat → Int × Int × H → Option (H)
 | 0, _ => none
 | n + 1, (x14, x15, h16) =>
 (if (decide (x15 < x14)) = true then (
 none)
 else (
 some h16))
def F146 (N : Nat) : Nat → Int × Int × (Nat × Nat) × ByteArray × Int × Int × V × Int × V × V × H → Option (Int × H)
 | 0, _ => none
 | d + 1, (a0_0, a0_1, a0_2, a0_3, a0_4, a0_5, a0_6, a1, a2, a3, h) =>
 (nck a2).bind fun _ =>
 (L.asInt .i64 (rd h a2 0)).bind fun x1 =>
 (nck a2).bind fun _ =>
 (wr h a2 [(.int .i64 (IntKind.i64.wrap (x1 + 1)))]).bind fun h2 =>
 (nck a3).bind fun _ =>
 (L.asInt .i64 (rd h2 a3 0)).bind fun x3 =>
 (nck a3).bind fun _ =>
 (wr h2 a3 [(.int .i64 (if a1 > x3 then a1 else x3))]).bind fun h4 =>
 (nck a2).bind fun _ =>
 (L.asInt .i64 (rd h4 a2 0)).bind fun x5 =>
 (if (decide (x5 > 1024)) = true then (
 some (true, h4))
 else (
 some ((decide (a1 > 64)), h4))).bind fun (b6, h7) =>
 (if b6 = true then (
 none)
 else (
 (F176 N (a0_0, a0_1, (a0_2.1, a0_2.2), a0_3, a0_4, a0_5, a0_6, h7)).bind fun (x8, h9) =>
 (if (!x8) = true then (
 none)
 else (
 (slen a0_6).bind fun n10 =>
 (L146_0 N (F146 N d) N (n10, 0, h9)).bind fun h17 =>
 some (0, h17)))))
abbrev ks146 : List SK := [.agg [(.int .i64), (.int .i64), (.cplx .f64), .str, (.int .i64), (.int .i64), .ref], .one (.int .i64), .one .ref, .one .ref]
abbrev rs146 : List SK := [.one (.int .i64)]
def e146 (N d : Nat) : Env := ⟨Tryz.prog, 54, inTab [4], inTab [], natTab [(4, 4), (34, 4), (40, 4)], inTab [], calTab [(176, .full (mkFun ks176 rs176 (F176 N)))], altTab [], loopTab [(8, ⟨⟨.normal, [36, 37], [.one (.int .i64), .one (.int .i64)], [], []⟩, [⟨(.exit 0), [], [], [], []⟩], L146_0 N (F146 N d)⟩)], natTab [], inTab [4, 6, 9, 10, 11, 12, 13]⟩
theorem l146_0 (N d : Nat) : ∀ A, (e146 N d).lp (lid (loopAt Tryz.f146 0)) = some A → LoopOk (e146 N d) N (loopAt Tryz.f146 0) A :=
  loopOk_of (A := ⟨⟨.normal, [36, 37], [.one (.int .i64), .one (.int .i64)], [], []⟩, [⟨(.exit 0), [], [], [], []⟩], L146_0 N (F146 N d)⟩) (by kernel_rfl) (fun _ => rfl) (fun _ _ => by kernel_rfl)
theorem fine146 (N d : Nat) : Fine (e146 N d) N 146 Tryz.f146 ks146 rs146 (F146 N (d + 1)) :=
  ⟨Tryz.func146, by kernel_rfl, by kernel_rfl, by kernel_rfl, loops_of ⟨l146_0 N d, trivial⟩, by kernel_rfl, by kernel_rfl, fun _ => by kernel_rfl⟩
theorem gd146 (N : Nat) : ∀ d, CalOk Tryz.prog 146 (.full (mkFun ks146 rs146 (F146 N d)))
  | 0 => fun vs h s he => by obtain ⟨t, _, he⟩ := Option.bind_eq_some_iff.1 he; cases he
  | d + 1 => mkFun_good (fine146 N d) (good_of ⟨gd176 N, trivial⟩)
theorem good146 (N d : Nat) : Go.L.Good (e146 N d) := good_of ⟨gd176 N, trivial⟩

/-! ### 116: term.Parts -/
def F116 (N : Nat) : Int × Int × (Nat × Nat) × ByteArray × Int × Int × V × H → Option (Int × Int × Int × H)
 | (a0_0, a0_1, a0_2, a0_3, a0_4, a0_5, a0_6, h) =>
 (some (h ++ [O.cells 0 [(.int .i64 0)]]) : Option H).bind fun h1 =>
 (some (h1 ++ [O.cells 0 [(.int .i64 0)]]) : Option H).bind fun h2 =>
 (F146 N N (a0_0, a0_1, (a0_2.1, a0_2.2), a0_3, a0_4, a0_5, a0_6, 1, (.ptr (h).length 0 0), (.ptr (h1).length 0 0), h2)).bind fun (x3, h4) =>
 (if (x3 != 0) = true then (
 none)
 else (
 (L.asInt .i64 (rd h4 (.ptr (h).length 0 0) 0)).bind fun x5 =>
 (L.asInt .i64 (rd h4 (.ptr (h1).length 0 0) 0)).bind fun x6 =>
 (wr h4 (.ptr (h).length 0 0) [(.int .i64 x5)]).bind fun h7 =>
 (wr h7 (.ptr (h1).length 0 0) [(.int .i64 x6)]).bind fun h8 =>
 (L.asInt .i64 (rd h8 (.ptr (h).length 0 0) 0)).bind fun x9 =>
 (L.asInt .i64 (rd h8 (.ptr (h1).length 0 0) 0)).bind fun x10 =>
 some (x9, x10, 0, h8)))
abbrev ks116 : List SK := [.agg [(.int .i64), (.int .i64), (.cplx .f64), .str, (.int .i64), (.int .i64), .ref]]
abbrev rs116 : List SK := [.one (.int .i64), .one (.int .i64), .one (.int .i64)]
def e116 (N : Nat) : Env := ⟨Tryz.prog, 12, inTab [1], inTab [], natTab [(1, 1)], inTab [], calTab [(146, .full (mkFun ks146 rs146 (F146 N N)))], altTab [], loopTab [], natTab [], inTab [3]⟩
theorem fine116 (N : Nat) : Fine (e116 N) N 116 Tryz.f116 ks116 rs116 (F116 N) :=
  ⟨Tryz.func116, by kernel_rfl, by kernel_rfl, by kernel_rfl, loops_of trivial, by kernel_rfl, by kernel_rfl, fun _ => by kernel_rfl⟩
theorem good116 (N : Nat) : Go.L.Good (e116 N) := good_of ⟨gd146 N N, trivial⟩
theorem gd116 (N : Nat) : CalOk Tryz.prog 116 (.full (mkFun ks116 rs116 (F116 N))) := mkFun_good (fine116 N) (good116 N)

/-! ### 69: term.Check -/
def F69 (N : Nat) : Int × Int × (Nat × Nat) × ByteArray × Int × Int × V × H → Option (Int × H)
 | (a0_0, a0_1, a0_2, a0_3, a0_4, a0_5, a0_6, h) =>
 (F116 N (a0_0, a0_1, (a0_2.1, a0_2.2), a0_3, a0_4, a0_5, a0_6, h)).bind fun (x1, x2, x3, h4) =>
 some (x3, h4)
abbrev ks69 : List SK := [.agg [(.int .i64), (.int .i64), (.cplx .f64), .str, (.int .i64), (.int .i64), .ref]]
abbrev rs69 : List SK := [.one (.int .i64)]
def e69 (N : Nat) : Env := ⟨Tryz.prog, 13, inTab [1], inTab [], natTab [(1, 1)], inTab [], calTab [(116, .full (mkFun ks116 rs116 (F116 N)))], altTab [], loopTab [], natTab [], inTab []⟩
theorem fine69 (N : Nat) : Fine (e69 N) N 69 Tryz.f69 ks69 rs69 (F69 N) :=
  ⟨Tryz.func69, by kernel_rfl, by kernel_rfl, by kernel_rfl, loops_of trivial, by kernel_rfl, by kernel_rfl, fun _ => by kernel_rfl⟩
theorem good69 (N : Nat) : Go.L.Good (e69 N) := good_of ⟨gd116 N, trivial⟩
theorem gd69 (N : Nat) : CalOk Tryz.prog 69 (.full (mkFun ks69 rs69 (F69 N))) := mkFun_good (fine69 N) (good69 N)


end
end Go.Proofs.YtgipaccfnlklcaaGreatDoor
