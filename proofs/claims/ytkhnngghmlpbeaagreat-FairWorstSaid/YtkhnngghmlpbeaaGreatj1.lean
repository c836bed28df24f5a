/- The functions that the law reaches, as plain ones (printed by gen.py). -/
import Derived.Test.YtkhnngghmlpbeaaGreatt2
set_option linter.unusedVariables false
set_option maxRecDepth 100000
namespace Go.Proofs.YtkhnngghmlpbeaaGreat
noncomputable section
open Go.L

/-! ### 40: fair.Waits -/
def L40_0 (N : Nat) : Nat → V × V × Int × Int × H → Option (V × H)
 | 0, _ => none
 | n + 1, (x17, x18, x19, x20, h21) =>
 (if (decide (x20 < x19)) = true then (
 (sidx x18 x20 29).bind fun q22 =>
 (rdN h21 q22 29).bind fun cs23 =>
 (if (cs23).length = 29 then (
 (if 0 + (cs23).length ≤ 29 then (
 ((if 0 + 29 ≤ ((splice [(.int .i64 0), (.int .i64 0), (.int .i64 0), (.int .i64 0), (.int .i64 0), (.int .i64 0), (.int .i64 0), .nils, (.int .i64 0), (.bool false), .nils, .nils, (.int .i64 0), (.int .i64 0), (.int .i64 0), (.int .i64 0), (.int .i64 0), (.int .i64 0), (.int .i64 0), (.int .i64 0), (.cplx .f64 0 0), (.str (ByteArray.mk #[])), (.int .i64 0), (.int .i64 0), .nils, (.int .i64 0), (.int .i64 0), .nils, .nils] 0 cs23)).length then some ((((splice [(.int .i64 0), (.int .i64 0), (.int .i64 0), (.int .i64 0), (.int .i64 0), (.int .i64 0), (.int .i64 0), .nils, (.int .i64 0), (.bool false), .nils, .nils, (.int .i64 0), (.int .i64 0), (.int .i64 0), (.int .i64 0), (.int .i64 0), (.int .i64 0), (.int .i64 0), (.int .i64 0), (.cplx .f64 0 0), (.str (ByteArray.mk #[])), (.int .i64 0), (.int .i64 0), .nils, (.int .i64 0), (.int .i64 0), .nils, .nils] 0 cs23)).drop 0).take 29) else none) : Option (List V)).bind fun cs24 =>
 Option.bind (α := (Bool × H)) (tabC rs74 TB74 [x17, (.int .i64 x20), (.agg cs24)] h21) fun (x25, h26) =>
 (if (!x25) = true then (
 none)
 else (
 L40_0 N n (x17, x18, x19, (IntKind.i64.wrap (x20 + 1)), h26)))) else none)) else none))
 else (
 some (x17, h21)))
def F40 (N : Nat) : Int × V × V × H → Option (V × Int × H)
 | (a0, a1, a2, h) =>
 Option.bind (α := (V × Int × H)) (tabC rs73 TB73 [(.int .i64 a0), a1] h) fun (x1, x2, h3) =>
 (if (x2 != 0) = true then (
 none)
 else (
 (some (h3 ++ [O.map 0 [] []]) : Option H).bind fun h4 =>
 (ck1 x1).bind fun _ =>
 (ck1 (.map (h3).length)).bind fun _ =>
 (some (h4 ++ [O.cells 0 [x1, .nils, (.map (h3).length)]]) : Option H).bind fun h5 =>
 (slen a2).bind fun n6 =>
 (L40_0 N N ((.ptr (h4).length 0 0), a2, n6, 0, h5)).bind fun (x27, h28) =>
 (nck x27).bind fun _ =>
 ((rd h28 (padd x27 1) 0)).bind fun x29 =>
 some (x29, 0, h28)))
abbrev ks40 : List SK := [.one (.int .i64), .one .ref, .one .ref]
abbrev rs40 : List SK := [.one .ref, .one (.int .i64)]
def e40 (N : Nat) : Env := ⟨Tryz.prog, 42, inTab [12], inTab [], natTab [(12, 12)], inTab [], calTab [(73, .full (tabF rs73 TB73)), (74, .full (tabF rs74 TB74))], altTab [], loopTab [(6, ⟨⟨.normal, [10, 25, 26, 27], [.one .ref, .one .ref, .one (.int .i64), .one (.int .i64)], [], []⟩, [⟨(.exit 0), [10], [.one .ref], [], []⟩], L40_0 N⟩)], natTab [], inTab [3, 9]⟩
theorem l40_0 (N : Nat) : ∀ A, (e40 N).lp (lid (loopAt Tryz.f40 0)) = some A → LoopOk (e40 N) N (loopAt Tryz.f40 0) A :=
  loopOk_of (A := ⟨⟨.normal, [10, 25, 26, 27], [.one .ref, .one .ref, .one (.int .i64), .one (.int .i64)], [], []⟩, [⟨(.exit 0), [10], [.one .ref], [], []⟩], L40_0 N⟩) (by kernel_rfl) (fun _ => rfl) (fun _ _ => by kernel_rfl)
theorem fine40 (N : Nat) : Fine (e40 N) N 40 Tryz.f40 ks40 rs40 (F40 N) :=
  ⟨Tryz.func40, by kernel_rfl, by kernel_rfl, by kernel_rfl, loops_of ⟨l40_0 N, trivial⟩, by kernel_rfl, by kernel_rfl, fun _ => by kernel_rfl⟩
theorem good40 (N : Nat) : Go.L.Good (e40 N) := good_of ⟨gt73, ⟨gt74, trivial⟩⟩
theorem gd40 (N : Nat) : CalOk Tryz.prog 40 (.full (mkFun ks40 rs40 (F40 N))) := mkFun_good (fine40 N) (good40 N)

/-! ### 17: carousellaw23.awake -/
def L17_0 (N : Nat) : Nat → V × Int × H → Option (V × H)
 | 0, _ => none
 | n + 1, (x17, x18, h19) =>
 (if (decide (x18 < 3)) = true then (
 Option.bind (α := (Int × Int × Int × H)) (tabC rs38 TB38 [x17, (.int .i64 0), (.int .i64 0), (.int .i64 0), (.int .i64 0), .nils] h19) fun (x20, x21, x22, h23) =>
 L17_0 N n (x17, (IntKind.i64.wrap (x18 + 1)), h23))
 else (
 some (x17, h19)))
def L17_1 (N : Nat) : Nat → V × Int × H → Option (V × H)
 | 0, _ => none
 | n + 1, (x50, x51, h52) =>
 (if (decide (x51 < 4)) = true then (
 Option.bind (α := (Bool × V × V × Int × Int × Int × Int × Int × Int × Int × Int × (Nat × Nat) × ByteArray × Int × Int × V × Int × Int × V × Int × H)) (tabC rs39 TB39 [x50, (.int .i64 0), (.int .i64 0)] h52) fun (x53, x54, x55, x56, x57, x58, x59, x60, x61, x62, x63, x64, x65, x66, x67, x68, x69, x70, x71, x72, h73) =>
 L17_1 N n (x50, (IntKind.i64.wrap (x51 + 1)), h73))
 else (
 some (x50, h52)))
def F17 (N : Nat) : H → Option (Bool × H)
 | h =>
 (some (h ++ [O.cells 0 [(.int .i64 0), (.int .i64 1), (.int .i64 2)]]) : Option H).bind fun h1 =>
 Option.bind (α := (V × Int × H)) (tabC rs36 TB36 [(.int .i64 1), (.sl (h).length 0 0 3 1 (some 3))] h1) fun (x2, x3, h4) =>
 (if (x3 != 0) = true then (
 none)
 else (
 (some (h4 ++ [O.cells 0 [(.int .i64 25), (.int .i64 0), (.int .i64 0), (.int .i64 0), (.int .i64 0), (.cplx .f64 0 0), (.str (ByteArray.mk #[])), (.int .i64 0), (.int .i64 0), .nils, .nils]]) : Option H).bind fun h5 =>
 (ck1 (.sl (h4).length 0 0 1 11 (some 1))).bind fun _ =>
 (some (h5 ++ [O.cells 0 [(.str (ByteArray.mk #[102])), (.int .i64 0), (.int .i64 0), (.sl (h4).length 0 0 1 11 (some 1))]]) : Option H).bind fun h6 =>
 (ck1 (.sl (h5).length 0 0 1 4 (some 1))).bind fun _ =>
 Option.bind (α := (Int × Int × H)) (tabC rs37 TB37 [x2, (.agg [(.str (ByteArray.mk #[109])), (.sl (h5).length 0 0 1 4 (some 1))])] h6) fun (x7, x8, h9) =>
 (L17_0 N N (x2, 0, h9)).bind fun (x24, h25) =>
 (L17_1 N N (x24, 0, h25)).bind fun (x74, h75) =>
 (some (h75 ++ [O.cells 0 [(.int .i64 0), (.int .i64 1), (.int .i64 2)]]) : Option H).bind fun h76 =>
 (nck x74).bind fun _ =>
 ((rd h76 (padd x74 52) 0)).bind fun x77 =>
 (F40 N (1, (.sl (h75).length 0 0 3 1 (some 3)), x77, h76)).bind fun (x78, x79, h80) =>
 (if (x79 == 0) = true then (
 (slen x78).bind fun n83 =>
 some ((n83 == 7), h80))
 else (
 some (false, h80))).bind fun (b81, h82) =>
 (if b81 = true then (
 (sidx x78 3 7).bind fun q86 =>
 (L.asInt .i64 (rd h82 (padd q86 4) 0)).bind fun x87 =>
 some ((x87 == 2), h82))
 else (
 some (false, h82))).bind fun (b84, h85) =>
 (if b84 = true then (
 (sidx x78 3 7).bind fun q90 =>
 (L.asInt .i64 (rd h85 (padd q90 3) 0)).bind fun x91 =>
 some ((x91 == 3), h85))
 else (
 some (false, h85))).bind fun (b88, h89) =>
 (if b88 = true then (
 (sidx x78 3 7).bind fun q94 =>
 (L.asBool (rd h89 (padd q94 6) 0)).bind fun x95 =>
 some (x95, h89))
 else (
 some (false, h89))).bind fun (b92, h93) =>
 (if b92 = true then (
 (F15 100 (8, 0, [])).bind fun (x98, _) =>
 some ((x98 == 16), h93))
 else (
 some (false, h93))).bind fun (b96, h97) =>
 some (b96, h97)))
abbrev ks17 : List SK := []
abbrev rs17 : List SK := [.one .bool]
def e17 (N : Nat) : Env := ⟨Tryz.prog, 73, inTab [], inTab [], natTab [], inTab [], calTab [(36, .full (tabF rs36 TB36)), (37, .full (tabF rs37 TB37)), (38, .full (tabF rs38 TB38)), (39, .full (tabF rs39 TB39)), (40, .full (mkFun ks40 rs40 (F40 N))), (15, .pure (mkP ks15 rs15 (F15 100)))], altTab [], loopTab [(6, ⟨⟨.normal, [1, 3], [.one .ref, .one (.int .i64)], [], []⟩, [⟨(.exit 0), [1], [.one .ref], [], []⟩], L17_0 N⟩), (10, ⟨⟨.normal, [1, 4], [.one .ref, .one (.int .i64)], [], []⟩, [⟨(.exit 2), [1], [.one .ref], [], []⟩], L17_1 N⟩)], natTab [], inTab [3]⟩
theorem l17_0 (N : Nat) : ∀ A, (e17 N).lp (lid (loopAt Tryz.f17 0)) = some A → LoopOk (e17 N) N (loopAt Tryz.f17 0) A :=
  loopOk_of (A := ⟨⟨.normal, [1, 3], [.one .ref, .one (.int .i64)], [], []⟩, [⟨(.exit 0), [1], [.one .ref], [], []⟩], L17_0 N⟩) (by kernel_rfl) (fun _ => rfl) (fun _ _ => by kernel_rfl)
theorem l17_1 (N : Nat) : ∀ A, (e17 N).lp (lid (loopAt Tryz.f17 1)) = some A → LoopOk (e17 N) N (loopAt Tryz.f17 1) A :=
  loopOk_of (A := ⟨⟨.normal, [1, 4], [.one .ref, .one (.int .i64)], [], []⟩, [⟨(.exit 2), [1], [.one .ref], [], []⟩], L17_1 N⟩) (by kernel_rfl) (fun _ => rfl) (fun _ _ => by kernel_rfl)
theorem lk17 (N : Nat) (g0 : Int × V × V × H → Option (V × Int × H)) (g1 : Int × Int × H → Option (Int × H)) (g2 : Nat → V × Int × H → Option (V × H)) (g3 : Nat → V × Int × H → Option (V × H)) (h : H) :
    ((some (h ++ [O.cells 0 [(.int .i64 0), (.int .i64 1), (.int .i64 2)]]) : Option H).bind fun h1 =>
Option.bind (α := (V × Int × H)) (tabC rs36 TB36 [(.int .i64 1), (.sl (h).length 0 0 3 1 (some 3))] h1) fun (x2, x3, h4) =>
(if (x3 != 0) = true then (
none)
else (
(some (h4 ++ [O.cells 0 [(.int .i64 25), (.int .i64 0), (.int .i64 0), (.int .i64 0), (.int .i64 0), (.cplx .f64 0 0), (.str (ByteArray.mk #[])), (.int .i64 0), (.int .i64 0), .nils, .nils]]) : Option H).bind fun h5 =>
(ck1 (.sl (h4).length 0 0 1 11 (some 1))).bind fun _ =>
(some (h5 ++ [O.cells 0 [(.str (ByteArray.mk #[102])), (.int .i64 0), (.int .i64 0), (.sl (h4).length 0 0 1 11 (some 1))]]) : Option H).bind fun h6 =>
(ck1 (.sl (h5).length 0 0 1 4 (some 1))).bind fun _ =>
Option.bind (α := (Int × Int × H)) (tabC rs37 TB37 [x2, (.agg [(.str (ByteArray.mk #[109])), (.sl (h5).length 0 0 1 4 (some 1))])] h6) fun (x7, x8, h9) =>
(g2 N (x2, 0, h9)).bind fun (x24, h25) =>
(g3 N (x24, 0, h25)).bind fun (x74, h75) =>
(some (h75 ++ [O.cells 0 [(.int .i64 0), (.int .i64 1), (.int .i64 2)]]) : Option H).bind fun h76 =>
(nck x74).bind fun _ =>
((rd h76 (padd x74 52) 0)).bind fun x77 =>
(g0 (1, (.sl (h75).length 0 0 3 1 (some 3)), x77, h76)).bind fun (x78, x79, h80) =>
(if (x79 == 0) = true then (
(slen x78).bind fun n83 =>
some ((n83 == 7), h80))
else (
some (false, h80))).bind fun (b81, h82) =>
(if b81 = true then (
(sidx x78 3 7).bind fun q86 =>
(L.asInt .i64 (rd h82 (padd q86 4) 0)).bind fun x87 =>
some ((x87 == 2), h82))
else (
some (false, h82))).bind fun (b84, h85) =>
(if b84 = true then (
(sidx x78 3 7).bind fun q90 =>
(L.asInt .i64 (rd h85 (padd q90 3) 0)).bind fun x91 =>
some ((x91 == 3), h85))
else (
some (false, h85))).bind fun (b88, h89) =>
(if b88 = true then (
(sidx x78 3 7).bind fun q94 =>
(L.asBool (rd h89 (padd q94 6) 0)).bind fun x95 =>
some (x95, h89))
else (
some (false, h89))).bind fun (b92, h93) =>
(if b92 = true then (
(g1 (8, 0, [])).bind fun (x98, _) =>
some ((x98 == 16), h93))
else (
some (false, h93))).bind fun (b96, h97) =>
some (b96, h97)))) = evFT ⟨Tryz.prog, 73, inTab [], inTab [], natTab [], inTab [], calTab [(36, .full (tabF rs36 TB36)), (37, .full (tabF rs37 TB37)), (38, .full (tabF rs38 TB38)), (39, .full (tabF rs39 TB39)), (40, .full (mkFun ks40 rs40 (g0))), (15, .pure (mkP ks15 rs15 (g1)))], altTab [], loopTab [(6, ⟨⟨.normal, [1, 3], [.one .ref, .one (.int .i64)], [], []⟩, [⟨(.exit 0), [1], [.one .ref], [], []⟩], g2⟩), (10, ⟨⟨.normal, [1, 4], [.one .ref, .one (.int .i64)], [], []⟩, [⟨(.exit 2), [1], [.one .ref], [], []⟩], g3⟩)], natTab [], inTab [3]⟩ N Tryz.f17 ks17 rs17 h := by kernel_rfl
theorem fine17 (N : Nat) : Fine (e17 N) N 17 Tryz.f17 ks17 rs17 (F17 N) :=
  ⟨Tryz.func17, by kernel_rfl, by kernel_rfl, by kernel_rfl, loops_of ⟨l17_0 N, ⟨l17_1 N, trivial⟩⟩, by kernel_rfl, by kernel_rfl, fun h => lk17 N (F40 N) (F15 100) (L17_0 N) (L17_1 N) h⟩
theorem good17 (N : Nat) : Go.L.Good (e17 N) := good_of ⟨gt36, ⟨gt37, ⟨gt38, ⟨gt39, ⟨gd40 N, ⟨gd15, trivial⟩⟩⟩⟩⟩⟩
theorem gd17 : CalOk Tryz.prog 17 (.pure (mkP ks17 rs17 (F17 2000))) := mkP_good (fine17 2000) (good17 2000) (by kernel_rfl) (by kernel_rfl)

/-! ### 4: carousellaw23.FairWorst -/
def F4 (N : Nat) : Int × V × Int × H → Option (Bool × H)
 | (a0, a1, a2, h) =>
 (F13 N (a0, a1, h)).bind fun (x1, x2, _) =>
 (F14 N (a0, a1, h)).bind fun (x3, x4, _) =>
 (if (x1 == x3) = true then (
 some ((x2 == x4), h))
 else (
 some (false, h))).bind fun (b5, h6) =>
 (if b5 = true then (
 (F15 100 (a0, a2, [])).bind fun (x9, _) =>
 (F16 100 (a0, a2, [])).bind fun (x10, _) =>
 some ((x9 == x10), h6))
 else (
 some (false, h6))).bind fun (b7, h8) =>
 (if b7 = true then (
 (F17 2000 []).bind fun (x13, _) =>
 some (x13, h8))
 else (
 some (false, h8))).bind fun (b11, h12) =>
 some (b11, h12)
abbrev ks4 : List SK := [.one (.int .i64), .one .ref, .one (.int .i64)]
abbrev rs4 : List SK := [.one .bool]
def e4 (N : Nat) : Env := ⟨Tryz.prog, 43, inTab [], inTab [], natTab [], inTab [], calTab [(13, .ro (mkFun ks13 rs13 (F13 N))), (14, .ro (mkFun ks14 rs14 (F14 N))), (15, .pure (mkP ks15 rs15 (F15 100))), (16, .pure (mkP ks16 rs16 (F16 100))), (17, .pure (mkP ks17 rs17 (F17 2000)))], altTab [], loopTab [], natTab [], inTab []⟩
theorem lk4 (N : Nat) (g0 : Int × V × H → Option (Int × Int × H)) (g1 : Int × V × H → Option (Int × Int × H)) (g2 : Int × Int × H → Option (Int × H)) (g3 : Int × Int × H → Option (Int × H)) (g4 : H → Option (Bool × H)) (a0 : Int) (a1 : V) (a2 : Int) (h : H) :
    ((g0 (a0, a1, h)).bind fun (x1, x2, _) =>
(g1 (a0, a1, h)).bind fun (x3, x4, _) =>
(if (x1 == x3) = true then (
some ((x2 == x4), h))
else (
some (false, h))).bind fun (b5, h6) =>
(if b5 = true then (
(g2 (a0, a2, [])).bind fun (x9, _) =>
(g3 (a0, a2, [])).bind fun (x10, _) =>
some ((x9 == x10), h6))
else (
some (false, h6))).bind fun (b7, h8) =>
(if b7 = true then (
(g4 []).bind fun (x13, _) =>
some (x13, h8))
else (
some (false, h8))).bind fun (b11, h12) =>
some (b11, h12)) = evFT ⟨Tryz.prog, 43, inTab [], inTab [], natTab [], inTab [], calTab [(13, .ro (mkFun ks13 rs13 (g0))), (14, .ro (mkFun ks14 rs14 (g1))), (15, .pure (mkP ks15 rs15 (g2))), (16, .pure (mkP ks16 rs16 (g3))), (17, .pure (mkP ks17 rs17 (g4)))], altTab [], loopTab [], natTab [], inTab []⟩ N Tryz.f4 ks4 rs4 (a0, a1, a2, h) := by kernel_rfl
theorem fine4 (N : Nat) : Fine (e4 N) N 4 Tryz.f4 ks4 rs4 (F4 N) :=
  ⟨Tryz.func4, by kernel_rfl, by kernel_rfl, by kernel_rfl, loops_of trivial, by kernel_rfl, by kernel_rfl, fun ⟨a0, a1, a2, h⟩ => lk4 N (F13 N) (F14 N) (F15 100) (F16 100) (F17 2000) a0 a1 a2 h⟩
theorem good4 (N : Nat) : Go.L.Good (e4 N) := good_of ⟨gd13 N, ⟨gd14 N, ⟨gd15, ⟨gd16, ⟨gd17, trivial⟩⟩⟩⟩⟩
theorem gd4 (N : Nat) : CalOk Tryz.prog 4 (.ro (mkFun ks4 rs4 (F4 N))) := mkFun_ro (fine4 N) (good4 N) (by kernel_rfl)


end
end Go.Proofs.YtkhnngghmlpbeaaGreat
