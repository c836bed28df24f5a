/- The functions that the law reaches, as plain ones (printed by gen.py). -/
import Derived.Test.YtgipaccfnlklcaaGreatt3
set_option linter.unusedVariables false
set_option maxRecDepth 100000
namespace Go.Proofs.YtgipaccfnlklcaaGreat
noncomputable section
open Go.L

/-! ### 8: carousellaw24.awake -/
def F8 (N : Nat) : H → Option (Bool × H)
 | h =>
 (some (h ++ [O.cells 0 [(.int .i64 0), (.int .i64 1), (.int .i64 2)]]) : Option H).bind fun h1 =>
 Option.bind (α := (V × Int × H)) (tabC rs34 TB34 [(.int .i64 1), (.sl (h).length 0 0 3 1 (some 3))] h1) fun (x2, x3, h4) =>
 (if (x3 != 0) = true then (
 some (true, h4))
 else (
 (isNil x2).bind fun b7 =>
 some (b7, h4))).bind fun (b5, h6) =>
 (if b5 = true then (
 none)
 else (
 Option.bind (α := (ByteArray × Int × H)) (tabC rs6 TB6 [x2] h6) fun (x8, x9, h10) =>
 Option.bind (α := (V × Int × Int × H)) (tabC rs7 TB7 [(.str x8)] h10) fun (x11, x12, x13, h14) =>
 Option.bind (α := (V × V × V × V × V × V × V × V × V × V × Int × Int × V × Int × Int × H)) (tabC rs29 TB29 [(.str (ByteArray.mk #[67, 82, 73, 49]))] h14) fun (x15, x16, x17, x18, x19, x20, x21, x22, x23, x24, x25, x26, x27, x28, x29, h30) =>
 (if (x9 == 0) = true then (
 some ((decide (((x8).size : Int) > 260)), h30))
 else (
 some (false, h30))).bind fun (b31, h32) =>
 (if b31 = true then (
 (if 0 ≤ 0 then (if 0 ≤ 9 then (if 9 ≤ ((x8).size : Int) then (
 some ((((ByteArray.extract x8 (Int.toNat 0) (Int.toNat 9))).toList == ((ByteArray.mk #[67, 82, 73, 49, 3, 0, 1, 2, 0])).toList), h32)) else none) else none) else none))
 else (
 some (false, h32))).bind fun (b33, h34) =>
 (if b33 = true then (
 some ((x12 == 0), h34))
 else (
 some (false, h34))).bind fun (b35, h36) =>
 (if b35 = true then (
 some ((x13 == 0), h36))
 else (
 some (false, h36))).bind fun (b37, h38) =>
 (if b37 = true then (
 (isNil x11).bind fun b41 =>
 some ((!b41), h38))
 else (
 some (false, h38))).bind fun (b39, h40) =>
 (if b39 = true then (
 (F21 N (x11, h40)).bind fun (x44, _) =>
 some ((x44 == 1), h40))
 else (
 some (false, h40))).bind fun (b42, h43) =>
 (if b42 = true then (
 some ((x28 == 80), h43))
 else (
 some (false, h43))).bind fun (b45, h46) =>
 (if b45 = true then (
 some ((x29 == 4), h46))
 else (
 some (false, h46))).bind fun (b47, h48) =>
 some (b47, h48)))
abbrev ks8 : List SK := []
abbrev rs8 : List SK := [.one .bool]
def e8 (N : Nat) : Env := ⟨Tryz.prog, 75, inTab [8], inTab [], natTab [(8, 8)], inTab [], calTab [(34, .full (tabF rs34 TB34)), (6, .full (tabF rs6 TB6)), (7, .full (tabF rs7 TB7)), (29, .full (tabF rs29 TB29)), (21, .ro (mkFun ks21 rs21 (F21 N)))], altTab [], loopTab [], natTab [], inTab [3]⟩
theorem lk8 (N : Nat) (g0 : V × H → Option (Int × H)) (h : H) :
    ((some (h ++ [O.cells 0 [(.int .i64 0), (.int .i64 1), (.int .i64 2)]]) : Option H).bind fun h1 =>
Option.bind (α := (V × Int × H)) (tabC rs34 TB34 [(.int .i64 1), (.sl (h).length 0 0 3 1 (some 3))] h1) fun (x2, x3, h4) =>
(if (x3 != 0) = true then (
some (true, h4))
else (
(isNil x2).bind fun b7 =>
some (b7, h4))).bind fun (b5, h6) =>
(if b5 = true then (
none)
else (
Option.bind (α := (ByteArray × Int × H)) (tabC rs6 TB6 [x2] h6) fun (x8, x9, h10) =>
Option.bind (α := (V × Int × Int × H)) (tabC rs7 TB7 [(.str x8)] h10) fun (x11, x12, x13, h14) =>
Option.bind (α := (V × V × V × V × V × V × V × V × V × V × Int × Int × V × Int × Int × H)) (tabC rs29 TB29 [(.str (ByteArray.mk #[67, 82, 73, 49]))] h14) fun (x15, x16, x17, x18, x19, x20, x21, x22, x23, x24, x25, x26, x27, x28, x29, h30) =>
(if (x9 == 0) = true then (
some ((decide (((x8).size : Int) > 260)), h30))
else (
some (false, h30))).bind fun (b31, h32) =>
(if b31 = true then (
(if 0 ≤ 0 then (if 0 ≤ 9 then (if 9 ≤ ((x8).size : Int) then (
some ((((ByteArray.extract x8 (Int.toNat 0) (Int.toNat 9))).toList == ((ByteArray.mk #[67, 82, 73, 49, 3, 0, 1, 2, 0])).toList), h32)) else none) else none) else none))
else (
some (false, h32))).bind fun (b33, h34) =>
(if b33 = true then (
some ((x12 == 0), h34))
else (
some (false, h34))).bind fun (b35, h36) =>
(if b35 = true then (
some ((x13 == 0), h36))
else (
some (false, h36))).bind fun (b37, h38) =>
(if b37 = true then (
(isNil x11).bind fun b41 =>
some ((!b41), h38))
else (
some (false, h38))).bind fun (b39, h40) =>
(if b39 = true then (
(g0 (x11, h40)).bind fun (x44, _) =>
some ((x44 == 1), h40))
else (
some (false, h40))).bind fun (b42, h43) =>
(if b42 = true then (
some ((x28 == 80), h43))
else (
some (false, h43))).bind fun (b45, h46) =>
(if b45 = true then (
some ((x29 == 4), h46))
else (
some (false, h46))).bind fun (b47, h48) =>
some (b47, h48)))) = evFT ⟨Tryz.prog, 75, inTab [8], inTab [], natTab [(8, 8)], inTab [], calTab [(34, .full (tabF rs34 TB34)), (6, .full (tabF rs6 TB6)), (7, .full (tabF rs7 TB7)), (29, .full (tabF rs29 TB29)), (21, .ro (mkFun ks21 rs21 (g0)))], altTab [], loopTab [], natTab [], inTab [3]⟩ N Tryz.f8 ks8 rs8 h := by kernel_rfl
theorem fine8 (N : Nat) : Fine (e8 N) N 8 Tryz.f8 ks8 rs8 (F8 N) :=
  ⟨Tryz.func8, by kernel_rfl, by kernel_rfl, by kernel_rfl, loops_of trivial, by kernel_rfl, by kernel_rfl, fun h => lk8 N (F21 N) h⟩
theorem good8 (N : Nat) : Go.L.Good (e8 N) := good_of ⟨gt34, ⟨gt6, ⟨gt7, ⟨gt29, ⟨gd21 N, trivial⟩⟩⟩⟩⟩
theorem gd8 : CalOk Tryz.prog 8 (.pure (mkP ks8 rs8 (F8 2000))) := mkP_good (fine8 2000) (good8 2000) (by kernel_rfl) (by kernel_rfl)

/-! ### 3: carousellaw24.ImageNil -/
def F3 (N : Nat) : ByteArray × H → Option (Bool × H)
 | (a0, h) =>
 (F6 N (.nilp, h)).bind fun (x1, x2, h3) =>
 (some (h3 ++ [O.cells 0 [.nils, .nils, .nilp, .nilp, .nilp, .nils, .nilm, (.int .i64 0), (.int .i64 0), .nils, .nilp, .nils, (.int .i64 0), .nils]]) : Option H).bind fun h4 =>
 (F6 N ((.ptr (h3).length 0 0), h4)).bind fun (x5, x6, h7) =>
 (if ((ByteArray.mk #[67, 82, 73, 50])).size + (a0).size ≤ mostBytes then (
 (F7 N (((ByteArray.mk #[67, 82, 73, 50]) ++ a0), h7)).bind fun (x8, x9, x10, h11) =>
 (if ((x1).toList == ((ByteArray.mk #[])).toList) = true then (
 some ((x2 == 1), h11))
 else (
 some (false, h11))).bind fun (b12, h13) =>
 (if b12 = true then (
 some (((x5).toList == ((ByteArray.mk #[])).toList), h13))
 else (
 some (false, h13))).bind fun (b14, h15) =>
 (if b14 = true then (
 some ((x6 == 1), h15))
 else (
 some (false, h15))).bind fun (b16, h17) =>
 (if b16 = true then (
 some ((x10 == 0), h17))
 else (
 some (false, h17))).bind fun (b18, h19) =>
 (if b18 = true then (
 (if (x9 == 80) = true then (
 some (true, h19))
 else (
 some ((x9 == 4), h19))).bind fun (b22, h23) =>
 some (b22, h23))
 else (
 some (false, h19))).bind fun (b20, h21) =>
 (if b20 = true then (
 (F8 2000 []).bind fun (x26, _) =>
 some (x26, h21))
 else (
 some (false, h21))).bind fun (b24, h25) =>
 some (b24, h25)) else none)
abbrev ks3 : List SK := [.one .str]
abbrev rs3 : List SK := [.one .bool]
def e3 (N : Nat) : Env := ⟨Tryz.prog, 58, inTab [], inTab [], natTab [], inTab [], calTab [(6, .full (mkFun ks6 rs6 (F6 N))), (7, .full (mkFun ks7 rs7 (F7 N))), (8, .pure (mkP ks8 rs8 (F8 2000)))], altTab [], loopTab [], natTab [], inTab []⟩
theorem lk3 (N : Nat) (g0 : V × H → Option (ByteArray × Int × H)) (g1 : ByteArray × H → Option (V × Int × Int × H)) (g2 : H → Option (Bool × H)) (a0 : ByteArray) (h : H) :
    ((g0 (.nilp, h)).bind fun (x1, x2, h3) =>
(some (h3 ++ [O.cells 0 [.nils, .nils, .nilp, .nilp, .nilp, .nils, .nilm, (.int .i64 0), (.int .i64 0), .nils, .nilp, .nils, (.int .i64 0), .nils]]) : Option H).bind fun h4 =>
(g0 ((.ptr (h3).length 0 0), h4)).bind fun (x5, x6, h7) =>
(if ((ByteArray.mk #[67, 82, 73, 50])).size + (a0).size ≤ mostBytes then (
(g1 (((ByteArray.mk #[67, 82, 73, 50]) ++ a0), h7)).bind fun (x8, x9, x10, h11) =>
(if ((x1).toList == ((ByteArray.mk #[])).toList) = true then (
some ((x2 == 1), h11))
else (
some (false, h11))).bind fun (b12, h13) =>
(if b12 = true then (
some (((x5).toList == ((ByteArray.mk #[])).toList), h13))
else (
some (false, h13))).bind fun (b14, h15) =>
(if b14 = true then (
some ((x6 == 1), h15))
else (
some (false, h15))).bind fun (b16, h17) =>
(if b16 = true then (
some ((x10 == 0), h17))
else (
some (false, h17))).bind fun (b18, h19) =>
(if b18 = true then (
(if (x9 == 80) = true then (
some (true, h19))
else (
some ((x9 == 4), h19))).bind fun (b22, h23) =>
some (b22, h23))
else (
some (false, h19))).bind fun (b20, h21) =>
(if b20 = true then (
(g2 []).bind fun (x26, _) =>
some (x26, h21))
else (
some (false, h21))).bind fun (b24, h25) =>
some (b24, h25)) else none)) = evFT ⟨Tryz.prog, 58, inTab [], inTab [], natTab [], inTab [], calTab [(6, .full (mkFun ks6 rs6 (g0))), (7, .full (mkFun ks7 rs7 (g1))), (8, .pure (mkP ks8 rs8 (g2)))], altTab [], loopTab [], natTab [], inTab []⟩ N Tryz.f3 ks3 rs3 (a0, h) := by kernel_rfl
theorem fine3 (N : Nat) : Fine (e3 N) N 3 Tryz.f3 ks3 rs3 (F3 N) :=
  ⟨Tryz.func3, by kernel_rfl, by kernel_rfl, by kernel_rfl, loops_of trivial, by kernel_rfl, by kernel_rfl, fun ⟨a0, h⟩ => lk3 N (F6 N) (F7 N) (F8 2000) a0 h⟩
theorem good3 (N : Nat) : Go.L.Good (e3 N) := good_of ⟨gd6 N, ⟨gd7 N, ⟨gd8, trivial⟩⟩⟩
theorem gd3 (N : Nat) : CalOk Tryz.prog 3 (.full (mkFun ks3 rs3 (F3 N))) := mkFun_good (fine3 N) (good3 N)


end
end Go.Proofs.YtgipaccfnlklcaaGreat
