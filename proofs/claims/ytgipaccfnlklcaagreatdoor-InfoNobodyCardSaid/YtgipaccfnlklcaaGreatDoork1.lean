/- The functions that the law reaches, as plain ones (printed by gen.py). -/
import Derived.Test.YtgipaccfnlklcaaGreatDoort2
set_option linter.unusedVariables false
set_option maxRecDepth 100000
namespace Go.Proofs.YtgipaccfnlklcaaGreatDoor
noncomputable section
open Go.L

/-! ### 10: carousellaw29.awake -/
def L10_0 (N : Nat) : Nat → V × Int × H → Option (V × H)
 | 0, _ => none
 | n + 1, (x20, x21, h22) =>
 (if (decide (x21 < 4)) = true then (
 Option.bind (α := (Int × Int × Int × H)) (tabC rs22 TB22 [x20, (.int .i64 (IntKind.i64.wrap (Int.tdiv x21 3))), (.int .i64 1), (.int .i64 0), (.int .i64 0), .nils] h22) fun (x23, x24, x25, h26) =>
 L10_0 N n (x20, (IntKind.i64.wrap (x21 + 1)), h26))
 else (
 some (x20, h22)))
def F10 (N : Nat) : H → Option (Bool × H)
 | h =>
 (some (h ++ [O.cells 0 [(.int .i64 0), (.int .i64 1), (.int .i64 2)]]) : Option H).bind fun h1 =>
 Option.bind (α := (V × Int × H)) (tabC rs20 TB20 [(.int .i64 2), (.sl (h).length 0 0 3 1 (some 3))] h1) fun (x2, x3, h4) =>
 (if (x3 != 0) = true then (
 some (true, h4))
 else (
 (isNil x2).bind fun b7 =>
 some (b7, h4))).bind fun (b5, h6) =>
 (if b5 = true then (
 none)
 else (
 (some (h6 ++ [O.cells 0 [(.int .i64 25), (.int .i64 0), (.int .i64 0), (.int .i64 0), (.int .i64 0), (.cplx .f64 0 0), (.str (ByteArray.mk #[])), (.int .i64 0), (.int .i64 0), .nils, .nils]]) : Option H).bind fun h8 =>
 (ck1 (.sl (h6).length 0 0 1 11 (some 1))).bind fun _ =>
 (some (h8 ++ [O.cells 0 [(.str (ByteArray.mk #[102])), (.int .i64 0), (.int .i64 0), (.sl (h6).length 0 0 1 11 (some 1))]]) : Option H).bind fun h9 =>
 (ck1 (.sl (h8).length 0 0 1 4 (some 1))).bind fun _ =>
 Option.bind (α := (Int × Int × H)) (tabC rs21 TB21 [x2, (.agg [(.str (ByteArray.mk #[109])), (.sl (h8).length 0 0 1 4 (some 1))])] h9) fun (x10, x11, h12) =>
 (L10_0 N N (x2, 0, h12)).bind fun (x27, h28) =>
 Option.bind (α := (ByteArray × Int × H)) (tabC rs5 TB5 [x27, (.agg [(.int .i64 0), (.int .i64 1)])] h28) fun (x29, x30, h31) =>
 Option.bind (α := (V × H)) (tabC rs7 TB7 [x27] h31) fun (x32, h33) =>
 (if (x30 == 0) = true then (
 some (((x29).toList == ((ByteArray.mk #[60, 48, 46, 49, 62, 32, 45, 32, 114, 101, 97, 100, 121, 32, 110, 111, 114, 109, 97, 108, 32, 99, 111, 114, 101, 61, 48, 32, 109, 111, 100, 117, 108, 101, 61, 48, 32, 114, 101, 100, 115, 61, 48, 32, 109, 97, 105, 108, 61, 48, 32, 100, 101, 112, 116, 104, 61, 49, 10])).toList), h33))
 else (
 some (false, h33))).bind fun (b34, h35) =>
 (if b34 = true then (
 (slen x32).bind fun n38 =>
 some ((n38 == 2), h35))
 else (
 some (false, h35))).bind fun (b36, h37) =>
 (if b36 = true then (
 (sidx x32 0 11).bind fun q41 =>
 (aidx (padd q41 1) 1 3 1).bind fun q42 =>
 (L.asInt .i64 (rd h37 q42 0)).bind fun x43 =>
 some ((x43 == 3), h37))
 else (
 some (false, h37))).bind fun (b39, h40) =>
 (if b39 = true then (
 Option.bind (α := ((Nat × Nat) × H)) (tabC rs8 TB8 [x27] h40) fun (x46, h47) =>
 some ((Op.floatEq .f64 x46.1 4613937818241073152 && Op.floatEq .f64 x46.2 4607182418800017408), h47))
 else (
 some (false, h40))).bind fun (b44, h45) =>
 (if b44 = true then (
 Option.bind (α := (Int × H)) (tabC rs9 TB9 [x27] h45) fun (x50, h51) =>
 some ((x50 == 0), h51))
 else (
 some (false, h45))).bind fun (b48, h49) =>
 some (b48, h49)))
abbrev ks10 : List SK := []
abbrev rs10 : List SK := [.one .bool]
def e10 (N : Nat) : Env := ⟨Tryz.prog, 70, inTab [], inTab [], natTab [], inTab [], calTab [(20, .full (tabF rs20 TB20)), (21, .full (tabF rs21 TB21)), (22, .full (tabF rs22 TB22)), (5, .full (tabF rs5 TB5)), (7, .full (tabF rs7 TB7)), (8, .full (tabF rs8 TB8)), (9, .full (tabF rs9 TB9))], altTab [], loopTab [(6, ⟨⟨.normal, [1, 3], [.one .ref, .one (.int .i64)], [], []⟩, [⟨(.exit 0), [1], [.one .ref], [], []⟩], L10_0 N⟩)], natTab [], inTab [3]⟩
theorem l10_0 (N : Nat) : ∀ A, (e10 N).lp (lid (loopAt Tryz.f10 0)) = some A → LoopOk (e10 N) N (loopAt Tryz.f10 0) A :=
  loopOk_of (A := ⟨⟨.normal, [1, 3], [.one .ref, .one (.int .i64)], [], []⟩, [⟨(.exit 0), [1], [.one .ref], [], []⟩], L10_0 N⟩) (by kernel_rfl) (fun _ => rfl) (fun _ _ => by kernel_rfl)
theorem lk10 (N : Nat) (g0 : Nat → V × Int × H → Option (V × H)) (h : H) :
    ((some (h ++ [O.cells 0 [(.int .i64 0), (.int .i64 1), (.int .i64 2)]]) : Option H).bind fun h1 =>
Option.bind (α := (V × Int × H)) (tabC rs20 TB20 [(.int .i64 2), (.sl (h).length 0 0 3 1 (some 3))] h1) fun (x2, x3, h4) =>
(if (x3 != 0) = true then (
some (true, h4))
else (
(isNil x2).bind fun b7 =>
some (b7, h4))).bind fun (b5, h6) =>
(if b5 = true then (
none)
else (
(some (h6 ++ [O.cells 0 [(.int .i64 25), (.int .i64 0), (.int .i64 0), (.int .i64 0), (.int .i64 0), (.cplx .f64 0 0), (.str (ByteArray.mk #[])), (.int .i64 0), (.int .i64 0), .nils, .nils]]) : Option H).bind fun h8 =>
(ck1 (.sl (h6).length 0 0 1 11 (some 1))).bind fun _ =>
(some (h8 ++ [O.cells 0 [(.str (ByteArray.mk #[102])), (.int .i64 0), (.int .i64 0), (.sl (h6).length 0 0 1 11 (some 1))]]) : Option H).bind fun h9 =>
(ck1 (.sl (h8).length 0 0 1 4 (some 1))).bind fun _ =>
Option.bind (α := (Int × Int × H)) (tabC rs21 TB21 [x2, (.agg [(.str (ByteArray.mk #[109])), (.sl (h8).length 0 0 1 4 (some 1))])] h9) fun (x10, x11, h12) =>
(g0 N (x2, 0, h12)).bind fun (x27, h28) =>
Option.bind (α := (ByteArray × Int × H)) (tabC rs5 TB5 [x27, (.agg [(.int .i64 0), (.int .i64 1)])] h28) fun (x29, x30, h31) =>
Option.bind (α := (V × H)) (tabC rs7 TB7 [x27] h31) fun (x32, h33) =>
(if (x30 == 0) = true then (
some (((x29).toList == ((ByteArray.mk #[60, 48, 46, 49, 62, 32, 45, 32, 114, 101, 97, 100, 121, 32, 110, 111, 114, 109, 97, 108, 32, 99, 111, 114, 101, 61, 48, 32, 109, 111, 100, 117, 108, 101, 61, 48, 32, 114, 101, 100, 115, 61, 48, 32, 109, 97, 105, 108, 61, 48, 32, 100, 101, 112, 116, 104, 61, 49, 10])).toList), h33))
else (
some (false, h33))).bind fun (b34, h35) =>
(if b34 = true then (
(slen x32).bind fun n38 =>
some ((n38 == 2), h35))
else (
some (false, h35))).bind fun (b36, h37) =>
(if b36 = true then (
(sidx x32 0 11).bind fun q41 =>
(aidx (padd q41 1) 1 3 1).bind fun q42 =>
(L.asInt .i64 (rd h37 q42 0)).bind fun x43 =>
some ((x43 == 3), h37))
else (
some (false, h37))).bind fun (b39, h40) =>
(if b39 = true then (
Option.bind (α := ((Nat × Nat) × H)) (tabC rs8 TB8 [x27] h40) fun (x46, h47) =>
some ((Op.floatEq .f64 x46.1 4613937818241073152 && Op.floatEq .f64 x46.2 4607182418800017408), h47))
else (
some (false, h40))).bind fun (b44, h45) =>
(if b44 = true then (
Option.bind (α := (Int × H)) (tabC rs9 TB9 [x27] h45) fun (x50, h51) =>
some ((x50 == 0), h51))
else (
some (false, h45))).bind fun (b48, h49) =>
some (b48, h49)))) = evFT ⟨Tryz.prog, 70, inTab [], inTab [], natTab [], inTab [], calTab [(20, .full (tabF rs20 TB20)), (21, .full (tabF rs21 TB21)), (22, .full (tabF rs22 TB22)), (5, .full (tabF rs5 TB5)), (7, .full (tabF rs7 TB7)), (8, .full (tabF rs8 TB8)), (9, .full (tabF rs9 TB9))], altTab [], loopTab [(6, ⟨⟨.normal, [1, 3], [.one .ref, .one (.int .i64)], [], []⟩, [⟨(.exit 0), [1], [.one .ref], [], []⟩], g0⟩)], natTab [], inTab [3]⟩ N Tryz.f10 ks10 rs10 h := by kernel_rfl
theorem fine10 (N : Nat) : Fine (e10 N) N 10 Tryz.f10 ks10 rs10 (F10 N) :=
  ⟨Tryz.func10, by kernel_rfl, by kernel_rfl, by kernel_rfl, loops_of ⟨l10_0 N, trivial⟩, by kernel_rfl, by kernel_rfl, fun h => lk10 N (L10_0 N) h⟩
theorem good10 (N : Nat) : Go.L.Good (e10 N) := good_of ⟨gt20, ⟨gt21, ⟨gt22, ⟨gt5, ⟨gt7, ⟨gt8, ⟨gt9, trivial⟩⟩⟩⟩⟩⟩⟩
theorem gd10 : CalOk Tryz.prog 10 (.pure (mkP ks10 rs10 (F10 2000))) := mkP_good (fine10 2000) (good10 2000) (by kernel_rfl) (by kernel_rfl)

/-! ### 3: carousellaw29.InfoNobody -/
def L3_0 (N : Nat) : Nat → Int × V × Int × Int × Int × H → Option (H)
 | 0, _ => none
 | n + 1, (x45, x46, x47, x48, x49, h50) =>
 (slen x46).bind fun n51 =>
 (if (decide (x47 < n51)) = true then (
 (sidx x46 x47 1).bind fun q52 =>
 ((rd h50 q52 0)).bind fun x53 =>
 (F4 N (x53, h50)).bind fun (x54, x55, _) =>
 (F5 N (x53, x48, x49, h50)).bind fun (x56, x57, h58) =>
 (F6 N (x53, x45, h58)).bind fun (x59, x60, x61, _) =>
 (if (!((x54).toList == ((ByteArray.mk #[])).toList)) = true then (
 some (true, h58))
 else (
 some ((!((x56).toList == ((ByteArray.mk #[])).toList)), h58))).bind fun (b62, h63) =>
 (if b62 = true then (
 some (true, h63))
 else (
 some ((x59 != 0), h63))).bind fun (b64, h65) =>
 (if b64 = true then (
 some (true, h65))
 else (
 some ((x60 != 0), h65))).bind fun (b66, h67) =>
 (if b66 = true then (
 some (true, h67))
 else (
 some ((x55 != 1), h67))).bind fun (b68, h69) =>
 (if b68 = true then (
 some (true, h69))
 else (
 some ((x57 != 1), h69))).bind fun (b70, h71) =>
 (if b70 = true then (
 some (true, h71))
 else (
 some ((x61 != 1), h71))).bind fun (b72, h73) =>
 (if b72 = true then (
 some (true, h73))
 else (
 (F7 N (x53, h73)).bind fun (x76, h77) =>
 (slen x76).bind fun n78 =>
 some ((decide (n78 > 0)), h77))).bind fun (b74, h75) =>
 (if b74 = true then (
 some (true, h75))
 else (
 (F8 N (x53, h75)).bind fun (x81, h82) =>
 some ((!(Op.floatEq .f64 x81.1 0 && Op.floatEq .f64 x81.2 0)), h82))).bind fun (b79, h80) =>
 (if b79 = true then (
 some (true, h80))
 else (
 (F9 N (x53, h80)).bind fun (x85, h86) =>
 some ((x85 != 1), h86))).bind fun (b83, h84) =>
 (if b83 = true then (
 none)
 else (
 L3_0 N n (x45, x46, (IntKind.i64.wrap (x47 + 1)), x48, x49, h84))))
 else (
 some h50))
def F3 (N : Nat) : Int × Int × Int × H → Option (Bool × H)
 | (a0_0, a0_1, a1, h) =>
 (some (h ++ [O.cells 0 [.nils, .nils, .nilp, .nilp, .nilp, .nils, .nilm, (.int .i64 0), (.int .i64 0), .nils, .nilp, .nils, (.int .i64 0), .nils]]) : Option H).bind fun h1 =>
 (some (h1 ++ [O.cells 0 [.nilp, (.ptr (h).length 0 0)]]) : Option H).bind fun h2 =>
 (L3_0 N N (a1, (.sl (h1).length 0 0 2 1 (some 2)), 0, a0_0, a0_1, h2)).bind fun h87 =>
 (F10 2000 []).bind fun (x88, _) =>
 some (x88, h87)
abbrev ks3 : List SK := [.agg [(.int .i64), (.int .i64)], .one (.int .i64)]
abbrev rs3 : List SK := [.one .bool]
def e3 (N : Nat) : Env := ⟨Tryz.prog, 89, inTab [2], inTab [], natTab [(2, 2)], inTab [], calTab [(4, .ro (mkFun ks4 rs4 (F4 N))), (5, .full (mkFun ks5 rs5 (F5 N))), (6, .ro (mkFun ks6 rs6 (F6 N))), (7, .full (mkFun ks7 rs7 (F7 N))), (8, .full (mkFun ks8 rs8 (F8 N))), (9, .full (mkFun ks9 rs9 (F9 N))), (10, .pure (mkP ks10 rs10 (F10 2000)))], altTab [], loopTab [(3, ⟨⟨.normal, [1, 2, 5, 6], [.one (.int .i64), .lp 2 0, .one .ref, .one (.int .i64)], [2], [.cells [(.int .i64), (.int .i64)]]⟩, [⟨(.exit 0), [], [], [], []⟩], L3_0 N⟩)], natTab [], inTab [10]⟩
theorem l3_0 (N : Nat) : ∀ A, (e3 N).lp (lid (loopAt Tryz.f3 0)) = some A → LoopOk (e3 N) N (loopAt Tryz.f3 0) A :=
  loopOk_of (A := ⟨⟨.normal, [1, 2, 5, 6], [.one (.int .i64), .lp 2 0, .one .ref, .one (.int .i64)], [2], [.cells [(.int .i64), (.int .i64)]]⟩, [⟨(.exit 0), [], [], [], []⟩], L3_0 N⟩) (by kernel_rfl) (fun _ => rfl) (fun _ _ => by kernel_rfl)
theorem lk3 (N : Nat) (g0 : V × H → Option (ByteArray × Int × H)) (g1 : V × Int × Int × H → Option (ByteArray × Int × H)) (g2 : V × Int × H → Option (Int × Int × Int × H)) (g3 : V × H → Option (V × H)) (g4 : V × H → Option ((Nat × Nat) × H)) (g5 : V × H → Option (Int × H)) (g6 : H → Option (Bool × H)) (g7 : Nat → Int × V × Int × Int × Int × H → Option (H)) (a0_0 : Int) (a0_1 : Int) (a1 : Int) (h : H) :
    ((some (h ++ [O.cells 0 [.nils, .nils, .nilp, .nilp, .nilp, .nils, .nilm, (.int .i64 0), (.int .i64 0), .nils, .nilp, .nils, (.int .i64 0), .nils]]) : Option H).bind fun h1 =>
(some (h1 ++ [O.cells 0 [.nilp, (.ptr (h).length 0 0)]]) : Option H).bind fun h2 =>
(g7 N (a1, (.sl (h1).length 0 0 2 1 (some 2)), 0, a0_0, a0_1, h2)).bind fun h87 =>
(g6 []).bind fun (x88, _) =>
some (x88, h87)) = evFT ⟨Tryz.prog, 89, inTab [2], inTab [], natTab [(2, 2)], inTab [], calTab [(4, .ro (mkFun ks4 rs4 (g0))), (5, .full (mkFun ks5 rs5 (g1))), (6, .ro (mkFun ks6 rs6 (g2))), (7, .full (mkFun ks7 rs7 (g3))), (8, .full (mkFun ks8 rs8 (g4))), (9, .full (mkFun ks9 rs9 (g5))), (10, .pure (mkP ks10 rs10 (g6)))], altTab [], loopTab [(3, ⟨⟨.normal, [1, 2, 5, 6], [.one (.int .i64), .lp 2 0, .one .ref, .one (.int .i64)], [2], [.cells [(.int .i64), (.int .i64)]]⟩, [⟨(.exit 0), [], [], [], []⟩], g7⟩)], natTab [], inTab [10]⟩ N Tryz.f3 ks3 rs3 (a0_0, a0_1, a1, h) := by kernel_rfl
theorem fine3 (N : Nat) : Fine (e3 N) N 3 Tryz.f3 ks3 rs3 (F3 N) :=
  ⟨Tryz.func3, by kernel_rfl, by kernel_rfl, by kernel_rfl, loops_of ⟨l3_0 N, trivial⟩, by kernel_rfl, by kernel_rfl, fun ⟨a0_0, a0_1, a1, h⟩ => lk3 N (F4 N) (F5 N) (F6 N) (F7 N) (F8 N) (F9 N) (F10 2000) (L3_0 N) a0_0 a0_1 a1 h⟩
theorem good3 (N : Nat) : Go.L.Good (e3 N) := good_of ⟨gd4 N, ⟨gd5 N, ⟨gd6 N, ⟨gd7 N, ⟨gd8 N, ⟨gd9 N, ⟨gd10, trivial⟩⟩⟩⟩⟩⟩⟩
theorem gd3 (N : Nat) : CalOk Tryz.prog 3 (.full (mkFun ks3 rs3 (F3 N))) := mkFun_good (fine3 N) (good3 N)


end
end Go.Proofs.YtgipaccfnlklcaaGreatDoor
