/- The functions that the law reaches, as plain ones (printed by gen.py). -/
import Derived.Test.YtgipaccfnlklcaaGreatt0
set_option linter.unusedVariables false
set_option maxRecDepth 100000
namespace Go.Proofs.YtgipaccfnlklcaaGreat
noncomputable section
open Go.L

/-! ### 224: timer.Wheel).Due -/
def F224 (N : Nat) : V × H → Option (V × H)
 | (a0, h) =>
 (F132 N (a0, h)).bind fun (x1, _) =>
 (if (!x1) = true then (
 none)
 else (
 Option.bind (α := (V × H)) (locF false ks134 rs134 (tabG ks134 rs134 TB134) ((a0, h) : V × H)) fun (x2, h3) =>
 (nck a0).bind fun _ =>
 ((rd h3 (padd a0 259) 0)).bind fun x4 =>
 (slen x4).bind fun n5 =>
 (slen x2).bind fun n6 =>
 (ssl 12 x2 0 n5).bind fun v7 =>
 (nck a0).bind fun _ =>
 (wr h3 (padd a0 259) [.nils]).bind fun h8 =>
 (F133 N (v7, h8)).bind fun (x9, _) =>
 some (x9, h8)))
abbrev ks224 : List SK := [.one .ref]
abbrev rs224 : List SK := [.one .ref]
def e224 (N : Nat) : Env := ⟨Tryz.prog, 21, inTab [], inTab [], natTab [], inTab [], calTab [(132, .ro (mkFun ks132 rs132 (F132 N))), (134, .full (mkFun ks134 rs134 (locF false ks134 rs134 (tabG ks134 rs134 TB134)))), (133, .ro (mkFun ks133 rs133 (F133 N)))], altTab [], loopTab [], natTab [], inTab [2]⟩
theorem fine224 (N : Nat) : Fine (e224 N) N 224 Tryz.f224 ks224 rs224 (F224 N) :=
  ⟨Tryz.func224, by kernel_rfl, by kernel_rfl, by kernel_rfl, loops_of trivial, by kernel_rfl, by kernel_rfl, fun _ => by kernel_rfl⟩
theorem good224 (N : Nat) : Go.L.Good (e224 N) := good_of ⟨gd132 N, ⟨gt134, ⟨gd133 N, trivial⟩⟩⟩
theorem gd224 (N : Nat) : CalOk Tryz.prog 224 (.full (mkFun ks224 rs224 (F224 N))) := mkFun_good (fine224 N) (good224 N)

/-! ### 117: node.Node).fires -/
def L117_0 (N : Nat) : Nat → V × Int × V × Int × Int × H → Option (V × Int × V × H)
 | 0, _ => none
 | n + 1, (x13, x14, x15, x16, x17, h18) =>
 (if (decide (x17 < x16)) = true then (
 none)
 else (
 some (x13, x14, x15, h18)))
def L117_1 (N : Nat) : Nat → V × Int × V × V × V × Int × Int × H → Option (V × V × H)
 | 0, _ => none
 | n + 1, (x47, x48, x49, x50, x51, x52, x53, h54) =>
 (if (decide (x53 < x52)) = true then (
 (sidx x51 x53 1).bind fun q55 =>
 ((rd h54 q55 0)).bind fun x56 =>
 (nck x56).bind fun _ =>
 (L.asInt .i64 (rd h54 (padd x56 3) 0)).bind fun x57 =>
 (if (x57 == x48) = true then (
 (nck x56).bind fun _ =>
 (L.asInt .i64 (rd h54 (padd x56 7) 0)).bind fun x60 =>
 some ((x60 == 2), h54))
 else (
 some (false, h54))).bind fun (b58, h59) =>
 (if b58 = true then (
 (nck x56).bind fun _ =>
 (L.asInt .i64 (rd h59 (padd x56 11) 0)).bind fun x63 =>
 some ((decide (x63 ≥ 0)), h59))
 else (
 some (false, h59))).bind fun (b61, h62) =>
 (if b61 = true then (
 (nck x56).bind fun _ =>
 (L.asInt .i64 (rd h62 (padd x56 11) 0)).bind fun x66 =>
 (nck x47).bind fun _ =>
 (L.asInt .i64 (rd h62 (padd x47 7) 0)).bind fun x67 =>
 some ((decide (x66 ≤ x67)), h62))
 else (
 some (false, h62))).bind fun (b64, h65) =>
 (if b64 = true then (
 none)
 else (
 L117_1 N n (x47, x48, x49, x50, x51, x52, (IntKind.i64.wrap (x53 + 1)), h65))))
 else (
 some (x49, x50, h54)))
def L117_2 (N : Nat) : Nat → V × V × Int × Int × H → Option (V × V × H)
 | 0, _ => none
 | n + 1, (x78, x79, x80, x81, h82) =>
 (if (decide (x81 < x80)) = true then (
 none)
 else (
 some (x78, x79, h82)))
def F117 (N : Nat) : V × Int × H → Option (V × V × H)
 | (a0, a1, h) =>
 (nck a0).bind fun _ =>
 ((rd h (padd a0 5) 0)).bind fun x1 =>
 (sidx x1 a1 4).bind fun q2 =>
 ((rd h (padd q2 1) 0)).bind fun x3 =>
 (F224 N (x3, h)).bind fun (x4, h5) =>
 (slen x4).bind fun n6 =>
 (L117_0 N N (a0, a1, .nils, n6, 0, h5)).bind fun (x19, x20, x21, h22) =>
 (F50 N (x19, h22)).bind fun (x23, h24) =>
 (slen x23).bind fun n25 =>
 (L117_1 N N (x19, x20, x21, .nils, x23, n25, 0, h24)).bind fun (x68, x69, h70) =>
 (F225 N (x69, (.fn 226 []), h70)).bind fun h71 =>
 (slen x69).bind fun n72 =>
 (L117_2 N N (x68, .nils, n72, 0, h71)).bind fun (x83, x84, h85) =>
 some (x83, x84, h85)
abbrev ks117 : List SK := [.one .ref, .one (.int .i64)]
abbrev rs117 : List SK := [.one .ref, .one .ref]
def e117 (N : Nat) : Env := ⟨Tryz.prog, 112, inTab [8, 32, 88, 104], inTab [], natTab [(8, 8), (30, 8), (36, 8), (38, 8), (42, 8), (44, 8)], inTab [], calTab [(224, .full (mkFun ks224 rs224 (F224 N))), (50, .full (mkFun ks50 rs50 (F50 N))), (225, .gro (mkFun ks225 rs225 (F225 N)))], altTab [], loopTab [(3, ⟨⟨.normal, [0, 1, 6, 24, 25], [.one .ref, .one (.int .i64), .one .ref, .one (.int .i64), .one (.int .i64)], [], []⟩, [⟨(.exit 0), [0, 1, 6], [.one .ref, .one (.int .i64), .one .ref], [], []⟩], L117_0 N⟩), (11, ⟨⟨.normal, [0, 1, 6, 9, 49, 50, 51], [.one .ref, .one (.int .i64), .one .ref, .one .ref, .one .ref, .one (.int .i64), .one (.int .i64)], [], []⟩, [⟨(.exit 2), [6, 9], [.one .ref, .one .ref], [], []⟩], L117_1 N⟩), (19, ⟨⟨.normal, [6, 12, 94, 95], [.one .ref, .one .ref, .one (.int .i64), .one (.int .i64)], [], []⟩, [⟨(.exit 4), [6, 12], [.one .ref, .one .ref], [], []⟩], L117_2 N⟩)], natTab [], inTab [4, 5, 6, 7, 8, 14, 20, 21, 22, 23]⟩
theorem l117_0 (N : Nat) : ∀ A, (e117 N).lp (lid (loopAt Tryz.f117 0)) = some A → LoopOk (e117 N) N (loopAt Tryz.f117 0) A :=
  loopOk_of (A := ⟨⟨.normal, [0, 1, 6, 24, 25], [.one .ref, .one (.int .i64), .one .ref, .one (.int .i64), .one (.int .i64)], [], []⟩, [⟨(.exit 0), [0, 1, 6], [.one .ref, .one (.int .i64), .one .ref], [], []⟩], L117_0 N⟩) (by kernel_rfl) (fun _ => rfl) (fun _ _ => by kernel_rfl)
theorem l117_1 (N : Nat) : ∀ A, (e117 N).lp (lid (loopAt Tryz.f117 1)) = some A → LoopOk (e117 N) N (loopAt Tryz.f117 1) A :=
  loopOk_of (A := ⟨⟨.normal, [0, 1, 6, 9, 49, 50, 51], [.one .ref, .one (.int .i64), .one .ref, .one .ref, .one .ref, .one (.int .i64), .one (.int .i64)], [], []⟩, [⟨(.exit 2), [6, 9], [.one .ref, .one .ref], [], []⟩], L117_1 N⟩) (by kernel_rfl) (fun _ => rfl) (fun _ _ => by kernel_rfl)
theorem l117_2 (N : Nat) : ∀ A, (e117 N).lp (lid (loopAt Tryz.f117 2)) = some A → LoopOk (e117 N) N (loopAt Tryz.f117 2) A :=
  loopOk_of (A := ⟨⟨.normal, [6, 12, 94, 95], [.one .ref, .one .ref, .one (.int .i64), .one (.int .i64)], [], []⟩, [⟨(.exit 4), [6, 12], [.one .ref, .one .ref], [], []⟩], L117_2 N⟩) (by kernel_rfl) (fun _ => rfl) (fun _ _ => by kernel_rfl)
theorem fine117 (N : Nat) : Fine (e117 N) N 117 Tryz.f117 ks117 rs117 (F117 N) :=
  ⟨Tryz.func117, by kernel_rfl, by kernel_rfl, by kernel_rfl, loops_of ⟨l117_0 N, ⟨l117_1 N, ⟨l117_2 N, trivial⟩⟩⟩, by kernel_rfl, by kernel_rfl, fun _ => by kernel_rfl⟩
theorem good117 (N : Nat) : Go.L.Good (e117 N) := good_of ⟨gd224 N, ⟨gd50 N, ⟨gdg225 N, trivial⟩⟩⟩
theorem gd117 (N : Nat) : CalOk Tryz.prog 117 (.full (mkFun ks117 rs117 (F117 N))) := mkFun_good (fine117 N) (good117 N)

/-! ### 246: slice.run -/
def L246_0 (N : Nat) : Nat → V × Int × ByteArray × V × Int × Int × Int × (Nat × Nat) × ByteArray × Int × Int × V × Int × Int × Int × Int × Int × (Nat × Nat) × ByteArray × Int × Int × V × Int × Int × H → Option (V × Int × Int × Int × (Nat × Nat) × ByteArray × Int × Int × V × Int × Int × H)
 | 0, _ => none
 | n + 1, (x72, x73, x74, x75, x76, x77, x78, x79, x80, x81, x82, x83, x84, x85, x86, x87, x88, x89, x90, x91, x92, x93, x94, x95, h96) =>
 (if (decide (x95 > (IntKind.i64.wrap (x73 - 8)))) = true then (
 some (.nils, 1, x87, x88, (x89.1, x89.2), x90, x91, x92, x93, x94, x95, h96))
 else (
 Option.bind (α := (Int × Int × Int × (Nat × Nat) × ByteArray × Int × Int × V × Int × Int × (Nat × Nat) × ByteArray × Int × Int × V × V × Int × Int × Int × V × Int × Int × H)) (locF false ks342 rs342 (tabG ks342 rs342 TB342) ((x74, x75, x72, h96) : ByteArray × V × V × H)) fun (x97, x98, x99, x100, x101, x102, x103, x104, x105, x106, x107, x108, x109, x110, x111, x112, x113, x114, x115, x116, x117, x118, h119) =>
 (if (x118 != 0) = true then (
 none)
 else (
 (if (x97 == 1) = true then (
 L246_0 N n (x72, x73, x74, x75, x76, x77, x78, (x79.1, x79.2), x80, x81, x82, x83, x84, x85, x86, x87, x88, (x89.1, x89.2), x90, x91, x92, x93, (IntKind.i64.wrap (x94 + 1)), (IntKind.i64.wrap (x95 + x117)), h119))
 else (
 none))))))
def F246 (N : Nat) : ByteArray × V × V × Int × V × H → Option (Int × Int × Int × (Nat × Nat) × ByteArray × Int × Int × V × Int × Int × V × H)
 | (a0_0, a0_1, a1, a2, a3, h) =>
 (if (decide (0 > (IntKind.i64.wrap (a2 - 8)))) = true then (
 some (1, 0, 0, (0, 0), (ByteArray.mk #[]), 0, 0, .nils, 0, 0, .nils, h))
 else (
 Option.bind (α := (Int × Int × Int × (Nat × Nat) × ByteArray × Int × Int × V × Int × Int × (Nat × Nat) × ByteArray × Int × Int × V × V × Int × Int × Int × V × Int × Int × H)) (locF false ks342 rs342 (tabG ks342 rs342 TB342) ((a0_0, a0_1, a1, h) : ByteArray × V × V × H)) fun (x1, x2, x3, x4, x5, x6, x7, x8, x9, x10, x11, x12, x13, x14, x15, x16, x17, x18, x19, x20, x21, x22, h23) =>
 (if (x22 != 0) = true then (
 none)
 else (
 (if (x1 == 1) = true then (
 (L246_0 N N (a1, a2, a0_0, a0_1, 0, 0, 0, (0, 0), (ByteArray.mk #[]), 0, 0, .nils, 0, 0, 0, 0, 0, (0, 0), (ByteArray.mk #[]), 0, 0, .nils, (IntKind.i64.wrap (0 + 1)), (IntKind.i64.wrap (0 + x21)), h23)).bind fun (x120, x121, x122, x123, x124, x125, x126, x127, x128, x129, x130, h131) =>
 some (x121, x122, x123, (x124.1, x124.2), x125, x126, x127, x128, x129, x130, x120, h131))
 else (
 none))))))
abbrev ks246 : List SK := [.agg [.str, .ref], .one .ref, .one (.int .i64), .one .ref]
abbrev rs246 : List SK := [.agg [(.int .i64), (.int .i64), (.int .i64), (.cplx .f64), .str, (.int .i64), (.int .i64), .ref, (.int .i64), (.int .i64)], .one .ref]
def e246 (N : Nat) : Env := ⟨Tryz.prog, 87, inTab [4, 8, 10, 11, 12], inTab [], natTab [(4, 4), (8, 8), (10, 10), (11, 11), (12, 12), (15, 10), (20, 10), (29, 10), (32, 10), (35, 10), (38, 10), (39, 10), (43, 10), (44, 12), (50, 12), (52, 10), (53, 10), (55, 12), (60, 12), (64, 11), (68, 10), (77, 12), (80, 10), (84, 10), (85, 10)], inTab [], calTab [(342, .full (mkFun ks342 rs342 (locF false ks342 rs342 (tabG ks342 rs342 TB342))))], altTab [], loopTab [(1000000, ⟨⟨.normal, [1, 2, 4, 8, 10], [.one .ref, .one (.int .i64), .lp 4 0, .lp 8 0, .lp 10 0], [4, 8, 10], [.cells [.str, .ref], .cells [(.int .i64), (.int .i64), (.int .i64), (.cplx .f64), .str, (.int .i64), (.int .i64), .ref, (.int .i64), (.int .i64)], .cells [(.int .i64), (.int .i64), (.int .i64), (.cplx .f64), .str, (.int .i64), (.int .i64), .ref, (.int .i64), (.int .i64)]]⟩, [⟨.ret, [8, 9], [.lp 8 0, .one .ref], [8], [.cells [(.int .i64), (.int .i64), (.int .i64), (.cplx .f64), .str, (.int .i64), (.int .i64), .ref, (.int .i64), (.int .i64)]]⟩], L246_0 N⟩)], natTab [], inTab [9, 13, 14, 15, 16, 17, 18, 19, 20, 21, 22, 23, 24, 25, 26]⟩
theorem l246_0 (N : Nat) : ∀ A, (e246 N).lp (lbKey 0) = some A → LabelOk (e246 N) N 0 (loopAt Tryz.f246 0) A :=
  labelOk_of (A := ⟨⟨.normal, [1, 2, 4, 8, 10], [.one .ref, .one (.int .i64), .lp 4 0, .lp 8 0, .lp 10 0], [4, 8, 10], [.cells [.str, .ref], .cells [(.int .i64), (.int .i64), (.int .i64), (.cplx .f64), .str, (.int .i64), (.int .i64), .ref, (.int .i64), (.int .i64)], .cells [(.int .i64), (.int .i64), (.int .i64), (.cplx .f64), .str, (.int .i64), (.int .i64), .ref, (.int .i64), (.int .i64)]]⟩, [⟨.ret, [8, 9], [.lp 8 0, .one .ref], [8], [.cells [(.int .i64), (.int .i64), (.int .i64), (.cplx .f64), .str, (.int .i64), (.int .i64), .ref, (.int .i64), (.int .i64)]]⟩], L246_0 N⟩) (by kernel_rfl) (fun _ => rfl) (fun _ _ => by kernel_rfl)
theorem lv246_1 (N : Nat) : ∀ A, (e246 N).lp (lbKey 1) = some A → LabelOk (e246 N) N 1 (loopAt Tryz.f246 1) A := fun A h => by
 rw [show (e246 N).lp (lbKey 1) = none by kernel_rfl] at h; cases h
theorem fine246 (N : Nat) : Fine (e246 N) N 246 Tryz.f246 ks246 rs246 (F246 N) :=
  ⟨Tryz.func246, by kernel_rfl, by kernel_rfl, by kernel_rfl, loops_of ⟨l246_0 N, ⟨lv246_1 N, trivial⟩⟩, by kernel_rfl, by kernel_rfl, fun _ => by kernel_rfl⟩
theorem good246 (N : Nat) : Go.L.Good (e246 N) := good_of ⟨gt342, trivial⟩
theorem gd246 (N : Nat) : CalOk Tryz.prog 246 (.full (mkFun ks246 rs246 (F246 N))) := mkFun_good (fine246 N) (good246 N)

/-! ### 122: slice.Run -/
def F122 (N : Nat) : ByteArray × V × V × Int × V × H → Option (Int × Int × Int × (Nat × Nat) × ByteArray × Int × Int × V × Int × Int × Int × H)
 | (a0_0, a0_1, a1, a2, a3, h) =>
 (if (decide (a2 < 8)) = true then (
 some (true, h))
 else (
 some ((decide (a2 > 1048576)), h))).bind fun (b1, h2) =>
 (if b1 = true then (
 some (true, h2))
 else (
 (isNilF a3).bind fun b5 =>
 some (b5, h2))).bind fun (b3, h4) =>
 (if b3 = true then (
 some (true, h4))
 else (
 Option.bind (α := (V × H)) (locF true ks244 rs244 (F244 N) ((a1, h4) : V × H)) fun (x8, h9) =>
 (isNil x8).bind fun b10 =>
 some (b10, h9))).bind fun (b6, h7) =>
 (if b6 = true then (
 none)
 else (
 (F36 N (a0_0, a0_1, h7)).bind fun (x11, x12, x13, h14) =>
 (if (x11 != 0) = true then (
 none)
 else (
 (F245 N (a1, h14)).bind fun (x15, _) =>
 (if (x15 == 0) = true then (
 none)
 else (
 (F246 N (a0_0, a0_1, a1, a2, a3, h14)).bind fun (x16, x17, x18, x19, x20, x21, x22, x23, x24, x25, x26, h27) =>
 some (x16, x17, x18, (x19.1, x19.2), x20, x21, x22, x23, x24, x25, 0, h27)))))))
abbrev ks122 : List SK := [.agg [.str, .ref], .one .ref, .one (.int .i64), .one .ref]
abbrev rs122 : List SK := [.agg [(.int .i64), (.int .i64), (.int .i64), (.cplx .f64), .str, (.int .i64), (.int .i64), .ref, (.int .i64), (.int .i64)], .one (.int .i64)]
def e122 (N : Nat) : Env := ⟨Tryz.prog, 54, inTab [4, 8, 13], inTab [], natTab [(4, 4), (8, 8), (13, 13)], inTab [], calTab [(244, .gro (mkFun ks244 rs244 (locF true ks244 rs244 (F244 N)))), (36, .full (mkFun ks36 rs36 (F36 N))), (245, .ro (mkFun ks245 rs245 (F245 N))), (246, .full (mkFun ks246 rs246 (F246 N)))], altTab [], loopTab [], natTab [], inTab [2, 5, 7]⟩
theorem fine122 (N : Nat) : Fine (e122 N) N 122 Tryz.f122 ks122 rs122 (F122 N) :=
  ⟨Tryz.func122, by kernel_rfl, by kernel_rfl, by kernel_rfl, loops_of trivial, by kernel_rfl, by kernel_rfl, fun _ => by kernel_rfl⟩
theorem good122 (N : Nat) : Go.L.Good (e122 N) := good_of ⟨gl244 N, ⟨gd36 N, ⟨gd245 N, ⟨gd246 N, trivial⟩⟩⟩⟩
theorem gd122 (N : Nat) : CalOk Tryz.prog 122 (.full (mkFun ks122 rs122 (F122 N))) := mkFun_good (fine122 N) (good122 N)

/-! ### 42: node.Node).turn -/
def F42 (N : Nat) : V × Int × Int × H → Option (Bool × V × V × Int × Int × Int × Int × Int × Int × Int × Int × (Nat × Nat) × ByteArray × Int × Int × V × Int × Int × V × H)
 | (a0, a1, a2, h) =>
 (F117 N (a0, a1, h)).bind fun (x1, x2, h3) =>
 (ck1 x1).bind fun _ =>
 (ck1 x2).bind fun _ =>
 (nck a0).bind fun _ =>
 ((rd h3 (padd a0 5) 0)).bind fun x4 =>
 (sidx x4 a1 4).bind fun q5 =>
 (L.asInt .i64 (rd h3 (padd q5 2) 0)).bind fun x6 =>
 (wr h3 (padd q5 2) [(.int .i64 (if 4611686018427387903 < (IntKind.i64.wrap (x6 + 1)) then 4611686018427387903 else (IntKind.i64.wrap (x6 + 1))))]).bind fun h7 =>
 ((rd h7 (padd q5 0) 0)).bind fun x8 =>
 (F118 N (x8, h7)).bind fun (x9, _) =>
 ((if x9 = true then (
 (F119 N (a0, a1, a2, h7)).bind fun (x10, h11) =>
 (if (x10 == 0) = true then (
 none)
 else (
 some (a0, a1, q5, false, .nils, .nils, 0, 0, 0, 0, 0, 0, 0, 0, (0, 0), (ByteArray.mk #[]), 0, 0, .nils, 0, 0, .nils, false, x1, x2, a2, 0, x10, 0, 0, 0, 0, 0, (0, 0), (ByteArray.mk #[]), 0, 0, .nils, 0, 0, .nils, h11))))
 else (
 some (a0, a1, q5, false, .nils, .nils, 0, 0, 0, 0, 0, 0, 0, 0, (0, 0), (ByteArray.mk #[]), 0, 0, .nils, 0, 0, .nils, false, x1, x2, (-1), 0, 0, 0, 0, 0, 0, 0, (0, 0), (ByteArray.mk #[]), 0, 0, .nils, 0, 0, .nils, h7))) : Option (V × Int × V × Bool × V × V × Int × Int × Int × Int × Int × Int × Int × Int × (Nat × Nat) × ByteArray × Int × Int × V × Int × Int × V × Bool × V × V × Int × Int × Int × Int × Int × Int × Int × Int × (Nat × Nat) × ByteArray × Int × Int × V × Int × Int × V × H)).bind fun (x12, x13, x14, x15, x16, x17, x18, x19, x20, x21, x22, x23, x24, x25, x26, x27, x28, x29, x30, x31, x32, x33, x34, x35, x36, x37, x38, x39, x40, x41, x42, x43, x44, x45, x46, x47, x48, x49, x50, x51, x52, h53) =>
 (nck x14).bind fun _ =>
 ((rd h53 (padd x14 0) 0)).bind fun x54 =>
 (F120 N (x54, h53)).bind fun (x55, x56, x57, x58, x59, h60) =>
 (F45 N (x12, x55, x56, h60)).bind fun (x61, _) =>
 (nck x61).bind fun _ =>
 (wr h60 (padd x61 9) [(.bool false)]).bind fun h62 =>
 (nck x12).bind fun _ =>
 (wr h62 (padd x12 12) [(.int .i64 0)]).bind fun h63 =>
 (nck x12).bind fun _ =>
 (wr h63 (padd x12 13) [.nils]).bind fun h64 =>
 (F121 N (x12, x61, h64)).bind fun (x65, h66) =>
 (nck x12).bind fun _ =>
 ((rd h66 (padd x12 1) 0)).bind fun x67 =>
 (nck x61).bind fun _ =>
 (L.asInt .i64 (rd h66 (padd x61 4) 0)).bind fun x68 =>
 (sidx x67 x68 2).bind fun q69 =>
 (L.asStr (rd h66 q69 0)).bind fun x70 =>
 ((rd h66 q69 1)).bind fun x71 =>
 (nck x61).bind fun _ =>
 ((rd h66 (padd x61 5) 0)).bind fun x72 =>
 (F122 N (x70, x71, x72, 64, x65, h66)).bind fun (x73, x74, x75, x76, x77, x78, x79, x80, x81, x82, x83, h84) =>
 (nck x12).bind fun _ =>
 ((rd h84 (padd x12 13) 0)).bind fun x85 =>
 (ck1 x85).bind fun _ =>
 (nck x61).bind fun _ =>
 (L.asInt .i64 (rd h84 (padd x61 10) 0)).bind fun x86 =>
 (nck x61).bind fun _ =>
 (wr h84 (padd x61 10) [(.int .i64 (if 4611686018427387903 < (IntKind.i64.wrap (x86 + x82)) then 4611686018427387903 else (IntKind.i64.wrap (x86 + x82))))]).bind fun h87 =>
 (F60 N (x12, 3, x13, x55, x56, x81, x82, h87)).bind fun h88 =>
 (if (x73 == 1) = true then (
 (F64 N (x12, x61, h88)).bind fun h89 =>
 some (x34, x35, x36, x37, x58, x39, x55, x56, x73, x74, x75, (x76.1, x76.2), x77, x78, x79, x80, x81, x82, x85, h89))
 else (
 none))
abbrev ks42 : List SK := [.one .ref, .one (.int .i64), .one (.int .i64)]
abbrev rs42 : List SK := [.agg [.bool, .ref, .ref, (.int .i64), (.int .i64), (.int .i64), (.int .i64), (.int .i64), (.int .i64), (.int .i64), (.int .i64), (.cplx .f64), .str, (.int .i64), (.int .i64), .ref, (.int .i64), (.int .i64), .ref]]
def e42 (N : Nat) : Env := ⟨Tryz.prog, 167, inTab [6, 7, 9], inTab [], natTab [(6, 6), (7, 7), (9, 9), (21, 7), (22, 7), (47, 7), (48, 7), (64, 7), (67, 7), (78, 9), (85, 9), (87, 7), (88, 7), (117, 7), (122, 7), (128, 7), (129, 7), (137, 9), (139, 7), (140, 7), (142, 7), (143, 7), (146, 7), (147, 7), (150, 9), (152, 7), (153, 7)], inTab [], calTab [(117, .full (mkFun ks117 rs117 (F117 N))), (118, .ro (mkFun ks118 rs118 (F118 N))), (119, .full (mkFun ks119 rs119 (F119 N))), (120, .full (mkFun ks120 rs120 (F120 N))), (45, .ro (mkFun ks45 rs45 (F45 N))), (121, .full (mkFun ks121 rs121 (F121 N))), (122, .full (mkFun ks122 rs122 (F122 N))), (60, .full (mkFun ks60 rs60 (F60 N))), (64, .full (mkFun ks64 rs64 (F64 N)))], altTab [(393258, [⟨.normal, [0, 1, 6, 7, 8], [.one .ref, .one (.int .i64), .lp 6 0, .lp 7 0, .one .ref], [6, 7], [.cells [.bool, .ref, .ref, (.int .i64), (.int .i64), (.int .i64), (.int .i64), (.int .i64), (.int .i64), (.int .i64), (.int .i64), (.cplx .f64), .str, (.int .i64), (.int .i64), .ref, (.int .i64), (.int .i64), .ref], .cells [.bool, .ref, .ref, (.int .i64), (.int .i64), (.int .i64), (.int .i64), (.int .i64), (.int .i64), (.int .i64), (.int .i64), (.cplx .f64), .str, (.int .i64), (.int .i64), .ref, (.int .i64), (.int .i64), .ref]]⟩])], loopTab [], natTab [], inTab [8, 9, 10, 11, 24, 27, 28]⟩
theorem fine42 (N : Nat) : Fine (e42 N) N 42 Tryz.f42 ks42 rs42 (F42 N) :=
  ⟨Tryz.func42, by kernel_rfl, by kernel_rfl, by kernel_rfl, loops_of trivial, by kernel_rfl, by kernel_rfl, fun _ => by kernel_rfl⟩
theorem good42 (N : Nat) : Go.L.Good (e42 N) := good_of ⟨gd117 N, ⟨gd118 N, ⟨gd119 N, ⟨gd120 N, ⟨gd45 N, ⟨gd121 N, ⟨gd122 N, ⟨gd60 N, ⟨gd64 N, trivial⟩⟩⟩⟩⟩⟩⟩⟩⟩
theorem gd42 (N : Nat) : CalOk Tryz.prog 42 (.full (mkFun ks42 rs42 (F42 N))) := mkFun_good (fine42 N) (good42 N)

/-! ### 12: node.Node).Turn -/
def F12 (N : Nat) : V × Int × Int × H → Option (Bool × V × V × Int × Int × Int × Int × Int × Int × Int × Int × (Nat × Nat) × ByteArray × Int × Int × V × Int × Int × V × Int × H)
 | (a0, a1, a2, h) =>
 (F35 N (a0, h)).bind fun (x1, _) =>
 (if (x1 != 0) = true then (
 some (false, .nils, .nils, 0, 0, 0, 0, 0, 0, 0, 0, (0, 0), (ByteArray.mk #[]), 0, 0, .nils, 0, 0, .nils, x1, h))
 else (
 (nck a0).bind fun _ =>
 ((rd h (padd a0 5) 0)).bind fun x2 =>
 (slen x2).bind fun n3 =>
 (F39 100 (a1, n3, [])).bind fun (x4, x5, _) =>
 (nck a0).bind fun _ =>
 ((rd h (padd a0 5) 0)).bind fun x6 =>
 (slen x6).bind fun n7 =>
 (F39 100 (a2, n7, [])).bind fun (x8, x9, _) =>
 (F42 N (a0, x4, x8, h)).bind fun (x10, x11, x12, x13, x14, x15, x16, x17, x18, x19, x20, x21, x22, x23, x24, x25, x26, x27, x28, h29) =>
 (F43 N (x10, x11, x12, x13, x14, x15, x16, x17, x18, x19, x20, (x21.1, x21.2), x22, x23, x24, x25, x26, x27, x28, h29)).bind fun (x30, x31, x32, x33, x34, x35, x36, x37, x38, x39, x40, x41, x42, x43, x44, x45, x46, x47, x48, h49) =>
 (F38 N (a0, [(.int .i64 5), (.int .i64 x4), (.int .i64 0), (.int .i64 0), (.int .i64 0), (.int .i64 0), (.int .i64 0), .nils, (.int .i64 x8), (.bool x30), x31, x32, (.int .i64 x33), (.int .i64 x34), (.int .i64 x35), (.int .i64 x36), (.int .i64 x37), (.int .i64 x38), (.int .i64 x39), (.int .i64 x40), (.cplx .f64 x41.1 x41.2), (.str x42), (.int .i64 x43), (.int .i64 x44), x45, (.int .i64 x46), (.int .i64 x47), x48, .nils], h49)).bind fun h50 =>
 some (x10, x11, x12, x13, x14, x15, x16, x17, x18, x19, x20, (x21.1, x21.2), x22, x23, x24, x25, x26, x27, x28, 0, h50)))
abbrev ks12 : List SK := [.one .ref, .one (.int .i64), .one (.int .i64)]
abbrev rs12 : List SK := [.agg [.bool, .ref, .ref, (.int .i64), (.int .i64), (.int .i64), (.int .i64), (.int .i64), (.int .i64), (.int .i64), (.int .i64), (.cplx .f64), .str, (.int .i64), (.int .i64), .ref, (.int .i64), (.int .i64), .ref], .one (.int .i64)]
def e12 (N : Nat) : Env := ⟨Tryz.prog, 52, inTab [6, 13], inTab [], natTab [(6, 6), (13, 13)], inTab [], calTab [(35, .ro (mkFun ks35 rs35 (F35 N))), (39, .pure (mkP ks39 rs39 (F39 100))), (42, .full (mkFun ks42 rs42 (F42 N))), (43, .gro (mkFun ks43 rs43 (F43 N))), (38, .full (mkFun ks38 rs38 (F38 N)))], altTab [], loopTab [], natTab [], inTab []⟩
theorem fine12 (N : Nat) : Fine (e12 N) N 12 Tryz.f12 ks12 rs12 (F12 N) :=
  ⟨Tryz.func12, by kernel_rfl, by kernel_rfl, by kernel_rfl, loops_of trivial, by kernel_rfl, by kernel_rfl, fun _ => by kernel_rfl⟩
theorem good12 (N : Nat) : Go.L.Good (e12 N) := good_of ⟨gd35 N, ⟨gd39, ⟨gd42 N, ⟨gdg43 N, ⟨gd38 N, trivial⟩⟩⟩⟩⟩
theorem gd12 (N : Nat) : CalOk Tryz.prog 12 (.full (mkFun ks12 rs12 (F12 N))) := mkFun_good (fine12 N) (good12 N)
theorem gl12 (N : Nat) : CalOk Tryz.prog 12 (.full (mkFun ks12 rs12 (locF false ks12 rs12 (F12 N)))) := loc_full (gd12 N)


end
end Go.Proofs.YtgipaccfnlklcaaGreat
