/- The functions that the law reaches, as plain ones (printed by gen.py). -/
import Derived.Test.YtgipaccfnlklcaaGreatg2
set_option linter.unusedVariables false
set_option maxRecDepth 100000
namespace Go.Proofs.YtgipaccfnlklcaaGreat
noncomputable section
open Go.L

/-! ### 469: step.ways -/
def F469 (N : Nat) : H → Option (V × H)
 | h =>
 (some (h ++ [O.cells 0 [(.int .i64 1), (.fn 491 []), (.int .i64 2), (.fn 492 []), (.int .i64 3), (.fn 493 []), (.int .i64 4), (.fn 494 []), (.int .i64 5), (.fn 495 []), (.int .i64 17), (.fn 496 []), (.int .i64 18), (.fn 497 []), (.int .i64 19), (.fn 498 []), (.int .i64 25), (.fn 499 []), (.int .i64 26), (.fn 500 []), (.int .i64 27), (.fn 501 []), (.int .i64 28), (.fn 502 []), (.int .i64 29), (.fn 503 []), (.int .i64 30), (.fn 504 []), (.int .i64 31), (.fn 505 []), (.int .i64 32), (.fn 506 []), (.int .i64 33), (.fn 507 []), (.int .i64 34), (.fn 508 []), (.int .i64 35), (.fn 509 []), (.int .i64 36), (.fn 510 []), (.int .i64 37), (.fn 511 []), (.int .i64 38), (.fn 512 []), (.int .i64 39), (.fn 513 []), (.int .i64 40), (.fn 514 []), (.int .i64 41), (.fn 515 []), (.int .i64 42), (.fn 516 []), (.int .i64 43), (.fn 517 []), (.int .i64 44), (.fn 518 []), (.int .i64 45), (.fn 519 []), (.int .i64 46), (.fn 520 [])]]) : Option H).bind fun h1 =>
 some ((.sl (h).length 0 0 30 2 (some 30)), h1)
abbrev ks469 : List SK := []
abbrev rs469 : List SK := [.one .ref]
def e469 (N : Nat) : Env := ⟨Tryz.prog, 32, inTab [], inTab [], natTab [], inTab [], calTab [], altTab [], loopTab [], natTab [], inTab []⟩
theorem fine469 (N : Nat) : Fine (e469 N) N 469 Tryz.f469 ks469 rs469 (F469 N) :=
  ⟨Tryz.func469, by kernel_rfl, by kernel_rfl, by kernel_rfl, loops_of trivial, by kernel_rfl, by kernel_rfl, fun _ => by kernel_rfl⟩
theorem good469 (N : Nat) : Go.L.Good (e469 N) := good_of trivial
theorem gdg469 (N : Nat) : CalOk Tryz.prog 469 (.gro (mkFun ks469 rs469 (F469 N))) := mkFun_groC (fine469 N) (good469 N) (by kernel_rfl)

/-! ### 499: step.doing).jump -/
def F499 (N : Nat) : V × H → Option (Int × H)
 | (a0, h) =>
 (nck a0).bind fun _ =>
 (L.asInt .i64 (rd h (padd (padd a0 6) 1) 0)).bind fun x1 =>
 (nck a0).bind fun _ =>
 (wr h (padd a0 39) [(.int .i64 x1)]).bind fun h2 =>
 some (0, h2)
abbrev ks499 : List SK := [.one .ref]
abbrev rs499 : List SK := [.one (.int .i64)]
def e499 (N : Nat) : Env := ⟨Tryz.prog, 11, inTab [], inTab [], natTab [], inTab [], calTab [], altTab [], loopTab [], natTab [], inTab []⟩
theorem fine499 (N : Nat) : Fine (e499 N) N 499 Tryz.f499 ks499 rs499 (F499 N) :=
  ⟨Tryz.func499, by kernel_rfl, by kernel_rfl, by kernel_rfl, loops_of trivial, by kernel_rfl, by kernel_rfl, fun _ => by kernel_rfl⟩
theorem good499 (N : Nat) : Go.L.Good (e499 N) := good_of trivial
theorem gd499 (N : Nat) : CalOk Tryz.prog 499 (.full (mkFun ks499 rs499 (F499 N))) := mkFun_good (fine499 N) (good499 N)

/-! ### 410: step.doing).does -/
abbrev rs410_22 : List SK := [.one (.int .i64)]
def D410_22 (N : Nat) : List (Nat × (List V → H → Option (Tup rs410_22 H))) := [(499, (mkFun ks499 rs499 (F499 N)).F)]
theorem dg410_22 (N : Nat) : CalOk Tryz.prog 16777238 (.dyn (dynF rs410_22 (D410_22 N))) := dyn_good ⟨mkFun_good (fine499 N) (good499 N), trivial⟩
def L410_0 (N : Nat) : Nat → V × V × Int × Int × H → Option ((H) ⊕ (Int × H))
 | 0, _ => none
 | n + 1, (x15, x16, x17, x18, h19) =>
 (if (decide (x18 < x17)) = true then (
 (sidx x16 x18 2).bind fun q20 =>
 (L.asInt .i64 (rd h19 q20 0)).bind fun x21 =>
 ((rd h19 q20 1)).bind fun x22 =>
 (nck x15).bind fun _ =>
 (L.asInt .i64 (rd h19 (padd (padd x15 6) 0) 0)).bind fun x23 =>
 (if (x21 == x23) = true then (
 Option.bind (α := Int × H) (dynC rs410_22 (D410_22 N) x22 [x15] h19) fun (x24, h25) =>
 some (.inr (x24, h25)))
 else (
 L410_0 N n (x15, x16, x17, (IntKind.i64.wrap (x18 + 1)), h19))))
 else (
 some (.inl h19)))
def F410 (N : Nat) : V × H → Option (Int × H)
 | (a0, h) =>
 (F469 N h).bind fun (x1, h2) =>
 (slen x1).bind fun n3 =>
 (L410_0 N N (a0, x1, n3, 0, h2)).bind fun o26 => match o26 with
 | .inl h27 => (
 none)
 | .inr (x28, h29) => (
 some (x28, h29))
abbrev ks410 : List SK := [.one .ref]
abbrev rs410 : List SK := [.one (.int .i64)]
def e410 (N : Nat) : Env := ⟨Tryz.prog, 34, inTab [4], inTab [], natTab [(4, 4), (11, 4), (19, 4)], inTab [], calTab [(469, .gro (mkFun ks469 rs469 (F469 N))), (16777238, .dyn (dynF rs410_22 (D410_22 N)))], altTab [], loopTab [(2, ⟨⟨.normal, [0, 5, 6, 7], [.one .ref, .one .ref, .one (.int .i64), .one (.int .i64)], [], []⟩, [⟨(.exit 0), [], [], [], []⟩, ⟨.ret, [2], [.one (.int .i64)], [], []⟩], L410_0 N⟩)], natTab [], inTab [7, 8, 9]⟩
theorem l410_0 (N : Nat) : ∀ A, (e410 N).lp (lid (loopAt Tryz.f410 0)) = some A → LoopOk (e410 N) N (loopAt Tryz.f410 0) A :=
  loopOk_of (A := ⟨⟨.normal, [0, 5, 6, 7], [.one .ref, .one .ref, .one (.int .i64), .one (.int .i64)], [], []⟩, [⟨(.exit 0), [], [], [], []⟩, ⟨.ret, [2], [.one (.int .i64)], [], []⟩], L410_0 N⟩) (by kernel_rfl) (fun _ => rfl) (fun _ _ => by kernel_rfl)
theorem fine410 (N : Nat) : Fine (e410 N) N 410 Tryz.f410 ks410 rs410 (F410 N) :=
  ⟨Tryz.func410, by kernel_rfl, by kernel_rfl, by kernel_rfl, loops_of ⟨l410_0 N, trivial⟩, by kernel_rfl, by kernel_rfl, fun _ => by kernel_rfl⟩
theorem good410 (N : Nat) : Go.L.Good (e410 N) := good_of ⟨gdg469 N, ⟨dg410_22 N, trivial⟩⟩
theorem gd410 (N : Nat) : CalOk Tryz.prog 410 (.full (mkFun ks410 rs410 (F410 N))) := mkFun_good (fine410 N) (good410 N)

/-! ### 411: frame.Stack).Go -/
def F411 (N : Nat) : V × Int × H → Option (Int × H)
 | (a0, a1, h) =>
 (F248 N (a0, h)).bind fun (x1, _) =>
 (if (!x1) = true then (
 some (true, h))
 else (
 some ((decide (a1 < 0)), h))).bind fun (b2, h3) =>
 (if b2 = true then (
 some (true, h3))
 else (
 some ((decide (a1 ≥ 1024)), h3))).bind fun (b4, h5) =>
 (if b4 = true then (
 none)
 else (
 (F393 N (a0, h5)).bind fun (x6, _) =>
 (isNil x6).bind fun b7 =>
 (if b7 = true then (
 none)
 else (
 (nck x6).bind fun _ =>
 (wr h5 (padd (padd x6 0) 1) [(.int .i64 a1)]).bind fun h8 =>
 some (0, h8)))))
abbrev ks411 : List SK := [.one .ref, .one (.int .i64)]
abbrev rs411 : List SK := [.one (.int .i64)]
def e411 (N : Nat) : Env := ⟨Tryz.prog, 26, inTab [], inTab [], natTab [], inTab [], calTab [(248, .ro (mkFun ks248 rs248 (F248 N))), (393, .ro (mkFun ks393 rs393 (F393 N)))], altTab [], loopTab [], natTab [], inTab [2, 5]⟩
theorem fine411 (N : Nat) : Fine (e411 N) N 411 Tryz.f411 ks411 rs411 (F411 N) :=
  ⟨Tryz.func411, by kernel_rfl, by kernel_rfl, by kernel_rfl, loops_of trivial, by kernel_rfl, by kernel_rfl, fun _ => by kernel_rfl⟩
theorem good411 (N : Nat) : Go.L.Good (e411 N) := good_of ⟨gd248 N, ⟨gd393 N, trivial⟩⟩
theorem gd411 (N : Nat) : CalOk Tryz.prog 411 (.full (mkFun ks411 rs411 (F411 N))) := mkFun_good (fine411 N) (good411 N)

/-! ### 412: code.Cost -/
def F412 (N : Nat) : Int × Int × Int × Int × Int × (Nat × Nat) × ByteArray × Int × Int × V × V × H → Option (Int × Int × H)
 | (a0_0, a0_1, a0_2, a0_3, a0_4, a0_5, a0_6, a0_7, a0_8, a0_9, a0_10, h) =>
 (F315 100 (a0_0, [])).bind fun (x1, _) =>
 (if (!x1) = true then (
 none)
 else (
 (if (a0_0 == 34) = true then (
 none)
 else (
 (if (a0_0 == 32) = true then (
 none)
 else (
 ((if (a0_0 == 18) = true then (
 some ((a0_0 == 18), h))
 else (
 (if (a0_0 == 19) = true then (
 some ((a0_0 == 19), h))
 else (
 (if (a0_0 == 27) = true then (
 some ((a0_0 == 27), h))
 else (
 (if (a0_0 == 28) = true then (
 some ((a0_0 == 28), h))
 else (
 (if (a0_0 == 33) = true then (
 some ((a0_0 == 33), h))
 else (
 (if (a0_0 == 35) = true then (
 some ((a0_0 == 35), h))
 else (
 (if (a0_0 == 36) = true then (
 some ((a0_0 == 36), h))
 else (
 (if (a0_0 == 37) = true then (
 some ((a0_0 == 37), h))
 else (
 (if (a0_0 == 38) = true then (
 some ((a0_0 == 38), h))
 else (
 (if (a0_0 == 39) = true then (
 some ((a0_0 == 39), h))
 else (
 (if (a0_0 == 40) = true then (
 some ((a0_0 == 40), h))
 else (
 (if (a0_0 == 42) = true then (
 some ((a0_0 == 42), h))
 else (
 (if (a0_0 == 43) = true then (
 some ((a0_0 == 43), h))
 else (
 some ((a0_0 == 44), h))))))))))))))))))))))))))) : Option (Bool × H)).bind fun (x2, h3) =>
 (if x2 = true then (
 none)
 else (
 some (1, 0, h3)))))))))
abbrev ks412 : List SK := [.agg [(.int .i64), (.int .i64), (.int .i64), (.int .i64), (.int .i64), (.cplx .f64), .str, (.int .i64), (.int .i64), .ref, .ref]]
abbrev rs412 : List SK := [.one (.int .i64), .one (.int .i64)]
def e412 (N : Nat) : Env := ⟨Tryz.prog, 29, inTab [1], inTab [], natTab [(1, 1), (4, 1), (8, 1)], inTab [], calTab [(315, .pure (mkP ks315 rs315 (F315 100)))], altTab [(2415919118, [⟨.normal, [14], [.one .bool], [], []⟩])], loopTab [], natTab [], inTab [2, 5, 7, 22]⟩
theorem fine412 (N : Nat) : Fine (e412 N) N 412 Tryz.f412 ks412 rs412 (F412 N) :=
  ⟨Tryz.func412, by kernel_rfl, by kernel_rfl, by kernel_rfl, loops_of trivial, by kernel_rfl, by kernel_rfl, fun _ => by kernel_rfl⟩
theorem good412 (N : Nat) : Go.L.Good (e412 N) := good_of ⟨gd315, trivial⟩
theorem gd412 (N : Nat) : CalOk Tryz.prog 412 (.ro (mkFun ks412 rs412 (F412 N))) := mkFun_ro (fine412 N) (good412 N) (by kernel_rfl)

/-! ### 342: step.Do -/
def F342 (N : Nat) : ByteArray × V × V × H → Option (Int × Int × Int × (Nat × Nat) × ByteArray × Int × Int × V × Int × Int × (Nat × Nat) × ByteArray × Int × Int × V × V × Int × Int × Int × V × Int × Int × H)
 | (a0_0, a0_1, a1, h) =>
 (F408 N (a0_0, a0_1, a1, h)).bind fun (x1, x2, h3) =>
 (if (x2 != 0) = true then (
 none)
 else (
 (F409 N (x1, h3)).bind fun (x4, h5) =>
 (if (x4 != 0) = true then (
 none)
 else (
 (F410 N (x1, h5)).bind fun (x6, h7) =>
 (if (x6 != 0) = true then (
 none)
 else (
 (nck x1).bind fun _ =>
 (L.asInt .i64 (rd h7 (padd x1 39) 0)).bind fun x8 =>
 (if (decide (x8 ≥ 0)) = true then (
 some (true, h7))
 else (
 (nck x1).bind fun _ =>
 (L.asInt .i64 (rd h7 (padd (padd x1 6) 0) 0)).bind fun x11 =>
 some ((x11 == 25), h7))).bind fun (b9, h10) =>
 (if b9 = true then (
 some (true, h10))
 else (
 (nck x1).bind fun _ =>
 (L.asInt .i64 (rd h10 (padd (padd x1 6) 0) 0)).bind fun x14 =>
 some ((x14 == 26), h10))).bind fun (b12, h13) =>
 (if b12 = true then (
 some (true, h13))
 else (
 (nck x1).bind fun _ =>
 (L.asInt .i64 (rd h13 (padd (padd x1 6) 0) 0)).bind fun x17 =>
 some ((x17 == 27), h13))).bind fun (b15, h16) =>
 ((if b15 = true then (
 (nck x1).bind fun _ =>
 (L.asInt .i64 (rd h16 (padd x1 39) 0)).bind fun x18 =>
 (if (decide (x18 < 0)) = true then (
 some (true, h16))
 else (
 (nck x1).bind fun _ =>
 (L.asInt .i64 (rd h16 (padd x1 39) 0)).bind fun x21 =>
 (nck x1).bind fun _ =>
 ((rd h16 (padd (padd x1 2) 3) 0)).bind fun x22 =>
 (slen x22).bind fun n23 =>
 some ((decide (x21 ≥ n23)), h16))).bind fun (b19, h20) =>
 (if b19 = true then (
 none)
 else (
 (nck x1).bind fun _ =>
 ((rd h20 (padd x1 17) 0)).bind fun x24 =>
 (nck x1).bind fun _ =>
 (L.asInt .i64 (rd h20 (padd x1 39) 0)).bind fun x25 =>
 (F411 N (x24, x25, h20)).bind fun (x26, h27) =>
 some (a1, x1, 0, 0, 0, (0, 0), (ByteArray.mk #[]), 0, 0, .nils, 0, 0, (0, 0), (ByteArray.mk #[]), 0, 0, .nils, .nils, 0, 0, 0, .nils, h27))))
 else (
 some (a1, x1, 0, 0, 0, (0, 0), (ByteArray.mk #[]), 0, 0, .nils, 0, 0, (0, 0), (ByteArray.mk #[]), 0, 0, .nils, .nils, 0, 0, 0, .nils, h16))) : Option (V × V × Int × Int × Int × (Nat × Nat) × ByteArray × Int × Int × V × Int × Int × (Nat × Nat) × ByteArray × Int × Int × V × V × Int × Int × Int × V × H)).bind fun (x28, x29, x30, x31, x32, x33, x34, x35, x36, x37, x38, x39, x40, x41, x42, x43, x44, x45, x46, x47, x48, x49, h50) =>
 (nck x29).bind fun _ =>
 ((rd h50 (padd x29 17) 0)).bind fun x51 =>
 (nck x51).bind fun _ =>
 (L.asBool (rd h50 x51 0)).bind fun x52 =>
 ((rd h50 x51 1)).bind fun x53 =>
 ((rd h50 x51 2)).bind fun x54 =>
 (nck x28).bind fun _ =>
 (wr h50 x28 [(.bool x52), x53, x54]).bind fun h55 =>
 (nck x29).bind fun _ =>
 (L.asInt .i64 (rd h55 (padd x29 6) 0)).bind fun x56 =>
 (L.asInt .i64 (rd h55 (padd x29 6) 1)).bind fun x57 =>
 (L.asInt .i64 (rd h55 (padd x29 6) 2)).bind fun x58 =>
 (L.asInt .i64 (rd h55 (padd x29 6) 3)).bind fun x59 =>
 (L.asInt .i64 (rd h55 (padd x29 6) 4)).bind fun x60 =>
 (L.asCplx .f64 (rd h55 (padd x29 6) 5)).bind fun x61 =>
 (L.asStr (rd h55 (padd x29 6) 6)).bind fun x62 =>
 (L.asInt .i64 (rd h55 (padd x29 6) 7)).bind fun x63 =>
 (L.asInt .i64 (rd h55 (padd x29 6) 8)).bind fun x64 =>
 ((rd h55 (padd x29 6) 9)).bind fun x65 =>
 ((rd h55 (padd x29 6) 10)).bind fun x66 =>
 (F412 N (x56, x57, x58, x59, x60, (x61.1, x61.2), x62, x63, x64, x65, x66, h55)).bind fun (x67, x68, _) =>
 (nck x29).bind fun _ =>
 (L.asInt .i64 (rd h55 (padd x29 19) 0)).bind fun x69 =>
 (L.asInt .i64 (rd h55 (padd x29 19) 1)).bind fun x70 =>
 (L.asInt .i64 (rd h55 (padd x29 19) 2)).bind fun x71 =>
 (L.asCplx .f64 (rd h55 (padd x29 19) 3)).bind fun x72 =>
 (L.asStr (rd h55 (padd x29 19) 4)).bind fun x73 =>
 (L.asInt .i64 (rd h55 (padd x29 19) 5)).bind fun x74 =>
 (L.asInt .i64 (rd h55 (padd x29 19) 6)).bind fun x75 =>
 ((rd h55 (padd x29 19) 7)).bind fun x76 =>
 (L.asInt .i64 (rd h55 (padd x29 19) 8)).bind fun x77 =>
 (L.asInt .i64 (rd h55 (padd x29 19) 9)).bind fun x78 =>
 (L.asCplx .f64 (rd h55 (padd x29 19) 10)).bind fun x79 =>
 (L.asStr (rd h55 (padd x29 19) 11)).bind fun x80 =>
 (L.asInt .i64 (rd h55 (padd x29 19) 12)).bind fun x81 =>
 (L.asInt .i64 (rd h55 (padd x29 19) 13)).bind fun x82 =>
 ((rd h55 (padd x29 19) 14)).bind fun x83 =>
 ((rd h55 (padd x29 19) 15)).bind fun x84 =>
 (L.asInt .i64 (rd h55 (padd x29 19) 16)).bind fun x85 =>
 (L.asInt .i64 (rd h55 (padd x29 19) 17)).bind fun x86 =>
 (L.asInt .i64 (rd h55 (padd x29 19) 18)).bind fun x87 =>
 ((rd h55 (padd x29 19) 19)).bind fun x88 =>
 some (x69, x70, x71, (x72.1, x72.2), x73, x74, x75, x76, x77, x78, (x79.1, x79.2), x80, x81, x82, x83, x84, x85, x86, x87, x88, x67, 0, h55)))))))
abbrev ks342 : List SK := [.agg [.str, .ref], .one .ref]
abbrev rs342 : List SK := [.agg [(.int .i64), (.int .i64), (.int .i64), (.cplx .f64), .str, (.int .i64), (.int .i64), .ref, (.int .i64), (.int .i64), (.cplx .f64), .str, (.int .i64), (.int .i64), .ref, .ref, (.int .i64), (.int .i64), (.int .i64), .ref], .one (.int .i64), .one (.int .i64)]
def e342 (N : Nat) : Env := ⟨Tryz.prog, 113, inTab [2, 4], inTab [], natTab [(2, 2), (4, 4)], inTab [], calTab [(408, .gro (mkFun ks408 rs408 (F408 N))), (409, .full (mkFun ks409 rs409 (F409 N))), (410, .full (mkFun ks410 rs410 (F410 N))), (411, .full (mkFun ks411 rs411 (F411 N))), (412, .ro (mkFun ks412 rs412 (F412 N)))], altTab [(720959, [⟨.normal, [1, 4, 7], [.one .ref, .lp 4 0, .one .ref], [4], [.cells [(.int .i64), (.int .i64), (.int .i64), (.cplx .f64), .str, (.int .i64), (.int .i64), .ref, (.int .i64), (.int .i64), (.cplx .f64), .str, (.int .i64), (.int .i64), .ref, .ref, (.int .i64), (.int .i64), (.int .i64), .ref]]⟩])], loopTab [], natTab [], inTab [3, 6, 9, 12]⟩
theorem fine342 (N : Nat) : Fine (e342 N) N 342 Tryz.f342 ks342 rs342 (F342 N) :=
  ⟨Tryz.func342, by kernel_rfl, by kernel_rfl, by kernel_rfl, loops_of trivial, by kernel_rfl, by kernel_rfl, fun _ => by kernel_rfl⟩
theorem good342 (N : Nat) : Go.L.Good (e342 N) := good_of ⟨gdg408 N, ⟨gd409 N, ⟨gd410 N, ⟨gd411 N, ⟨gd412 N, trivial⟩⟩⟩⟩⟩
theorem gd342 (N : Nat) : CalOk Tryz.prog 342 (.full (mkFun ks342 rs342 (F342 N))) := mkFun_good (fine342 N) (good342 N)
theorem gl342 (N : Nat) : CalOk Tryz.prog 342 (.full (mkFun ks342 rs342 (locF false ks342 rs342 (F342 N)))) := loc_full (gd342 N)

/-! ### 123: api.Pid] -/
def F123 (N : Nat) : V × H → Option (V × H)
 | (a0, h) =>
 (isNilS a0).bind fun b1 =>
 (if b1 = true then (
 some (.nils, h))
 else (
 none))
abbrev ks123 : List SK := [.one .ref]
abbrev rs123 : List SK := [.one .ref]
def e123 (N : Nat) : Env := ⟨Tryz.prog, 8, inTab [], inTab [], natTab [], inTab [], calTab [], altTab [], loopTab [], natTab [], inTab [3]⟩
theorem fine123 (N : Nat) : Fine (e123 N) N 123 Tryz.f123 ks123 rs123 (F123 N) :=
  ⟨Tryz.func123, by kernel_rfl, by kernel_rfl, by kernel_rfl, loops_of trivial, by kernel_rfl, by kernel_rfl, fun _ => by kernel_rfl⟩
theorem good123 (N : Nat) : Go.L.Good (e123 N) := good_of trivial
theorem gd123 (N : Nat) : CalOk Tryz.prog 123 (.ro (mkFun ks123 rs123 (F123 N))) := mkFun_ro (fine123 N) (good123 N) (by kernel_rfl)

/-! ### 43: node.shown -/
def F43 (N : Nat) : Bool × V × V × Int × Int × Int × Int × Int × Int × Int × Int × (Nat × Nat) × ByteArray × Int × Int × V × Int × Int × V × H → Option (Bool × V × V × Int × Int × Int × Int × Int × Int × Int × Int × (Nat × Nat) × ByteArray × Int × Int × V × Int × Int × V × H)
 | (a0_0, a0_1, a0_2, a0_3, a0_4, a0_5, a0_6, a0_7, a0_8, a0_9, a0_10, a0_11, a0_12, a0_13, a0_14, a0_15, a0_16, a0_17, a0_18, h) =>
 Option.bind (α := (V × H)) (locF true ks47 rs47 (F47 N) ((a0_1, h) : V × H)) fun (x1, h2) =>
 (F123 N (a0_2, h2)).bind fun (x3, _) =>
 Option.bind (α := (V × H)) (locF true ks47 rs47 (F47 N) ((a0_18, h2) : V × H)) fun (x4, h5) =>
 (ck1 x1).bind fun _ =>
 (ck1 x3).bind fun _ =>
 (ck1 x4).bind fun _ =>
 some (a0_0, x1, x3, a0_3, a0_4, a0_5, a0_6, a0_7, a0_8, a0_9, a0_10, (a0_11.1, a0_11.2), a0_12, a0_13, a0_14, a0_15, a0_16, a0_17, x4, h5)
abbrev ks43 : List SK := [.agg [.bool, .ref, .ref, (.int .i64), (.int .i64), (.int .i64), (.int .i64), (.int .i64), (.int .i64), (.int .i64), (.int .i64), (.cplx .f64), .str, (.int .i64), (.int .i64), .ref, (.int .i64), (.int .i64), .ref]]
abbrev rs43 : List SK := [.agg [.bool, .ref, .ref, (.int .i64), (.int .i64), (.int .i64), (.int .i64), (.int .i64), (.int .i64), (.int .i64), (.int .i64), (.cplx .f64), .str, (.int .i64), (.int .i64), .ref, (.int .i64), (.int .i64), .ref]]
def e43 (N : Nat) : Env := ⟨Tryz.prog, 16, inTab [1, 2], inTab [], natTab [(1, 1), (2, 2), (3, 1), (6, 1), (9, 1), (12, 1), (13, 1), (14, 1)], inTab [], calTab [(47, .gro (mkFun ks47 rs47 (locF true ks47 rs47 (F47 N)))), (123, .ro (mkFun ks123 rs123 (F123 N)))], altTab [], loopTab [], natTab [], inTab []⟩
theorem fine43 (N : Nat) : Fine (e43 N) N 43 Tryz.f43 ks43 rs43 (F43 N) :=
  ⟨Tryz.func43, by kernel_rfl, by kernel_rfl, by kernel_rfl, loops_of trivial, by kernel_rfl, by kernel_rfl, fun _ => by kernel_rfl⟩
theorem good43 (N : Nat) : Go.L.Good (e43 N) := good_of ⟨gl47 N, ⟨gd123 N, trivial⟩⟩
theorem gdg43 (N : Nat) : CalOk Tryz.prog 43 (.gro (mkFun ks43 rs43 (F43 N))) := mkFun_groC (fine43 N) (good43 N) (by kernel_rfl)

/-! ### 13: node.Node).Actor -/
def F13 (N : Nat) : V × Int × Int × H → Option (Int × Int × ByteArray × Int × Int × Int × Int × Bool × Bool × Int × Int × Int × V × V × Int × H)
 | (a0, a1_0, a1_1, h) =>
 (F44 N (a0, h)).bind fun (x1, _) =>
 (if (!x1) = true then (
 some (0, 0, (ByteArray.mk #[]), 0, 0, 0, 0, false, false, 0, 0, 0, .nils, .nils, 1, h))
 else (
 none))
abbrev ks13 : List SK := [.one .ref, .agg [(.int .i64), (.int .i64)]]
abbrev rs13 : List SK := [.agg [(.int .i64), (.int .i64), .str, (.int .i64), (.int .i64), (.int .i64), (.int .i64), .bool, .bool, (.int .i64), (.int .i64), (.int .i64), .ref, .ref], .one (.int .i64)]
def e13 (N : Nat) : Env := ⟨Tryz.prog, 20, inTab [3, 4], inTab [], natTab [(3, 3), (4, 4)], inTab [], calTab [(44, .ro (mkFun ks44 rs44 (F44 N)))], altTab [], loopTab [], natTab [], inTab [3, 4, 5, 6]⟩
theorem fine13 (N : Nat) : Fine (e13 N) N 13 Tryz.f13 ks13 rs13 (F13 N) :=
  ⟨Tryz.func13, by kernel_rfl, by kernel_rfl, by kernel_rfl, loops_of trivial, by kernel_rfl, by kernel_rfl, fun _ => by kernel_rfl⟩
theorem good13 (N : Nat) : Go.L.Good (e13 N) := good_of ⟨gd44 N, trivial⟩
theorem gd13 (N : Nat) : CalOk Tryz.prog 13 (.ro (mkFun ks13 rs13 (F13 N))) := mkFun_ro (fine13 N) (good13 N) (by kernel_rfl)

/-! ### 14: node.Node).Snap -/
def F14 (N : Nat) : V × H → Option (V × V × V × V × V × V × V × V × V × V × Int × Int × V × H)
 | (a0, h) =>
 (F44 N (a0, h)).bind fun (x1, _) =>
 (if (!x1) = true then (
 some (.nils, .nils, .nils, .nils, .nils, .nils, .nils, .nils, .nils, .nils, 0, 0, .nils, h))
 else (
 none))
abbrev ks14 : List SK := [.one .ref]
abbrev rs14 : List SK := [.agg [.ref, .ref, .ref, .ref, .ref, .ref, .ref, .ref, .ref, .ref, (.int .i64), (.int .i64), .ref]]
def e14 (N : Nat) : Env := ⟨Tryz.prog, 147, inTab [2, 3, 7, 8, 64, 90, 98, 105, 112, 120], inTab [], natTab [(2, 2), (3, 3), (7, 7), (8, 8), (29, 3), (30, 3), (31, 3), (39, 3), (66, 3), (81, 7), (85, 8), (87, 3), (92, 3), (93, 3), (95, 7), (100, 3), (101, 3), (103, 7), (107, 3), (108, 3), (110, 7), (114, 3), (115, 3), (117, 7), (122, 3), (142, 3), (143, 3), (144, 3), (145, 3)], inTab [], calTab [(44, .ro (mkFun ks44 rs44 (F44 N)))], altTab [], loopTab [], natTab [], inTab [4, 5, 6, 7, 8, 9, 10, 11, 12, 13, 14, 15, 16, 17, 18, 19, 20, 21, 22, 23, 24, 25, 26]⟩
theorem lv14_0 (N : Nat) : ∀ A, (e14 N).lp (lid (loopAt Tryz.f14 0)) = some A → LoopOk (e14 N) N (loopAt Tryz.f14 0) A := fun A h => by
 rw [show (e14 N).lp (lid (loopAt Tryz.f14 0)) = none by kernel_rfl] at h; cases h
theorem lv14_1 (N : Nat) : ∀ A, (e14 N).lp (lid (loopAt Tryz.f14 1)) = some A → LoopOk (e14 N) N (loopAt Tryz.f14 1) A := fun A h => by
 rw [show (e14 N).lp (lid (loopAt Tryz.f14 1)) = none by kernel_rfl] at h; cases h
theorem lv14_2 (N : Nat) : ∀ A, (e14 N).lp (lid (loopAt Tryz.f14 2)) = some A → LoopOk (e14 N) N (loopAt Tryz.f14 2) A := fun A h => by
 rw [show (e14 N).lp (lid (loopAt Tryz.f14 2)) = none by kernel_rfl] at h; cases h
theorem fine14 (N : Nat) : Fine (e14 N) N 14 Tryz.f14 ks14 rs14 (F14 N) :=
  ⟨Tryz.func14, by kernel_rfl, by kernel_rfl, by kernel_rfl, loops_of ⟨lv14_0 N, ⟨lv14_1 N, ⟨lv14_2 N, trivial⟩⟩⟩, by kernel_rfl, by kernel_rfl, fun _ => by kernel_rfl⟩
theorem good14 (N : Nat) : Go.L.Good (e14 N) := good_of ⟨gd44 N, trivial⟩
theorem gd14 (N : Nat) : CalOk Tryz.prog 14 (.full (mkFun ks14 rs14 (F14 N))) := mkFun_good (fine14 N) (good14 N)
theorem gl14 (N : Nat) : CalOk Tryz.prog 14 (.gro (mkFun ks14 rs14 (locF true ks14 rs14 (F14 N)))) := loc_gro (gd14 N)

/-! ### 16: carouselref03.Nil -/
def F16 (N : Nat) : H → Option (Int × Int × (Nat × Nat) × ByteArray × Int × Int × V × H)
 | h =>
 some (1, 0, (0, 0), (ByteArray.mk #[]), 0, 0, .nils, h)
abbrev ks16 : List SK := []
abbrev rs16 : List SK := [.agg [(.int .i64), (.int .i64), (.cplx .f64), .str, (.int .i64), (.int .i64), .ref]]
def e16 (N : Nat) : Env := ⟨Tryz.prog, 2, inTab [0], inTab [], natTab [(0, 0)], inTab [], calTab [], altTab [], loopTab [], natTab [], inTab []⟩
theorem fine16 (N : Nat) : Fine (e16 N) N 16 Tryz.f16 ks16 rs16 (F16 N) :=
  ⟨Tryz.func16, by kernel_rfl, by kernel_rfl, by kernel_rfl, loops_of trivial, by kernel_rfl, by kernel_rfl, fun _ => by kernel_rfl⟩
theorem good16 (N : Nat) : Go.L.Good (e16 N) := good_of trivial
theorem gd16 : CalOk Tryz.prog 16 (.pure (mkP ks16 rs16 (scalF ks16 rs16 (F16 100)))) := scal_pure (fine16 100) (good16 100)

/-! ### 15: node.Node).Send -/
def F15 (N : Nat) : V × Int × Int × Int × Int × (Nat × Nat) × ByteArray × Int × Int × V × H → Option (Int × H)
 | (a0, a1_0, a1_1, a2_0, a2_1, a2_2, a2_3, a2_4, a2_5, a2_6, h) =>
 (F35 N (a0, h)).bind fun (x1, _) =>
 (if (x1 != 0) = true then (
 some (x1, h))
 else (
 none))
abbrev ks15 : List SK := [.one .ref, .agg [(.int .i64), (.int .i64)], .agg [(.int .i64), (.int .i64), (.cplx .f64), .str, (.int .i64), (.int .i64), .ref]]
abbrev rs15 : List SK := [.one (.int .i64)]
def e15 (N : Nat) : Env := ⟨Tryz.prog, 44, inTab [4, 5], inTab [], natTab [(4, 4), (5, 5)], inTab [], calTab [(35, .ro (mkFun ks35 rs35 (F35 N)))], altTab [], loopTab [], natTab [], inTab [4, 5, 6, 7, 8, 9, 10, 11, 12, 13, 14, 15]⟩
theorem fine15 (N : Nat) : Fine (e15 N) N 15 Tryz.f15 ks15 rs15 (F15 N) :=
  ⟨Tryz.func15, by kernel_rfl, by kernel_rfl, by kernel_rfl, loops_of trivial, by kernel_rfl, by kernel_rfl, fun _ => by kernel_rfl⟩
theorem good15 (N : Nat) : Go.L.Good (e15 N) := good_of ⟨gd35 N, trivial⟩
theorem gd15 (N : Nat) : CalOk Tryz.prog 15 (.ro (mkFun ks15 rs15 (F15 N))) := mkFun_ro (fine15 N) (good15 N) (by kernel_rfl)

/-! ### 17: node.Node).Tick -/
def F17 (N : Nat) : V × Int × H → Option (Int × H)
 | (a0, a1, h) =>
 (F35 N (a0, h)).bind fun (x1, _) =>
 (if (x1 != 0) = true then (
 some (x1, h))
 else (
 none))
abbrev ks17 : List SK := [.one .ref, .one (.int .i64)]
abbrev rs17 : List SK := [.one (.int .i64)]
def e17 (N : Nat) : Env := ⟨Tryz.prog, 58, inTab [], inTab [], natTab [], inTab [], calTab [(35, .ro (mkFun ks35 rs35 (F35 N)))], altTab [], loopTab [], natTab [], inTab [4, 5, 6, 7, 8, 9, 10, 11, 12, 13]⟩
theorem lv17_0 (N : Nat) : ∀ A, (e17 N).lp (lid (loopAt Tryz.f17 0)) = some A → LoopOk (e17 N) N (loopAt Tryz.f17 0) A := fun A h => by
 rw [show (e17 N).lp (lid (loopAt Tryz.f17 0)) = none by kernel_rfl] at h; cases h
theorem fine17 (N : Nat) : Fine (e17 N) N 17 Tryz.f17 ks17 rs17 (F17 N) :=
  ⟨Tryz.func17, by kernel_rfl, by kernel_rfl, by kernel_rfl, loops_of ⟨lv17_0 N, trivial⟩, by kernel_rfl, by kernel_rfl, fun _ => by kernel_rfl⟩
theorem good17 (N : Nat) : Go.L.Good (e17 N) := good_of ⟨gd35 N, trivial⟩
theorem gd17 (N : Nat) : CalOk Tryz.prog 17 (.ro (mkFun ks17 rs17 (F17 N))) := mkFun_ro (fine17 N) (good17 N) (by kernel_rfl)

/-! ### 18: node.Node).Suspend -/
def F18 (N : Nat) : V × Int × Int × H → Option (Int × H)
 | (a0, a1_0, a1_1, h) =>
 (F35 N (a0, h)).bind fun (x1, _) =>
 (if (x1 != 0) = true then (
 some (x1, h))
 else (
 none))
abbrev ks18 : List SK := [.one .ref, .agg [(.int .i64), (.int .i64)]]
abbrev rs18 : List SK := [.one (.int .i64)]
def e18 (N : Nat) : Env := ⟨Tryz.prog, 45, inTab [3], inTab [], natTab [(3, 3)], inTab [], calTab [(35, .ro (mkFun ks35 rs35 (F35 N)))], altTab [], loopTab [], natTab [], inTab [4, 5, 6, 7, 8, 9, 10, 11, 12]⟩
theorem fine18 (N : Nat) : Fine (e18 N) N 18 Tryz.f18 ks18 rs18 (F18 N) :=
  ⟨Tryz.func18, by kernel_rfl, by kernel_rfl, by kernel_rfl, loops_of trivial, by kernel_rfl, by kernel_rfl, fun _ => by kernel_rfl⟩
theorem good18 (N : Nat) : Go.L.Good (e18 N) := good_of ⟨gd35 N, trivial⟩
theorem gd18 (N : Nat) : CalOk Tryz.prog 18 (.ro (mkFun ks18 rs18 (F18 N))) := mkFun_ro (fine18 N) (good18 N) (by kernel_rfl)

/-! ### 19: node.Node).Resume -/
def F19 (N : Nat) : V × Int × Int × H → Option (Int × H)
 | (a0, a1_0, a1_1, h) =>
 (F35 N (a0, h)).bind fun (x1, _) =>
 (if (x1 != 0) = true then (
 some (x1, h))
 else (
 none))
abbrev ks19 : List SK := [.one .ref, .agg [(.int .i64), (.int .i64)]]
abbrev rs19 : List SK := [.one (.int .i64)]
def e19 (N : Nat) : Env := ⟨Tryz.prog, 29, inTab [3], inTab [], natTab [(3, 3)], inTab [], calTab [(35, .ro (mkFun ks35 rs35 (F35 N)))], altTab [], loopTab [], natTab [], inTab [4, 5, 6, 7, 8, 9, 10, 11]⟩
theorem fine19 (N : Nat) : Fine (e19 N) N 19 Tryz.f19 ks19 rs19 (F19 N) :=
  ⟨Tryz.func19, by kernel_rfl, by kernel_rfl, by kernel_rfl, loops_of trivial, by kernel_rfl, by kernel_rfl, fun _ => by kernel_rfl⟩
theorem good19 (N : Nat) : Go.L.Good (e19 N) := good_of ⟨gd35 N, trivial⟩
theorem gd19 (N : Nat) : CalOk Tryz.prog 19 (.ro (mkFun ks19 rs19 (F19 N))) := mkFun_ro (fine19 N) (good19 N) (by kernel_rfl)

/-! ### 20: node.Node).Kill -/
def F20 (N : Nat) : V × Int × Int × Int × Int × (Nat × Nat) × ByteArray × Int × Int × V × H → Option (Int × H)
 | (a0, a1_0, a1_1, a2_0, a2_1, a2_2, a2_3, a2_4, a2_5, a2_6, h) =>
 (F35 N (a0, h)).bind fun (x1, _) =>
 (if (x1 != 0) = true then (
 some (x1, h))
 else (
 none))
abbrev ks20 : List SK := [.one .ref, .agg [(.int .i64), (.int .i64)], .agg [(.int .i64), (.int .i64), (.cplx .f64), .str, (.int .i64), (.int .i64), .ref]]
abbrev rs20 : List SK := [.one (.int .i64)]
def e20 (N : Nat) : Env := ⟨Tryz.prog, 33, inTab [4, 5], inTab [], natTab [(4, 4), (5, 5)], inTab [], calTab [(35, .ro (mkFun ks35 rs35 (F35 N)))], altTab [], loopTab [], natTab [], inTab [4, 5, 6, 7, 8, 9, 10, 11]⟩
theorem fine20 (N : Nat) : Fine (e20 N) N 20 Tryz.f20 ks20 rs20 (F20 N) :=
  ⟨Tryz.func20, by kernel_rfl, by kernel_rfl, by kernel_rfl, loops_of trivial, by kernel_rfl, by kernel_rfl, fun _ => by kernel_rfl⟩
theorem good20 (N : Nat) : Go.L.Good (e20 N) := good_of ⟨gd35 N, trivial⟩
theorem gd20 (N : Nat) : CalOk Tryz.prog 20 (.ro (mkFun ks20 rs20 (F20 N))) := mkFun_ro (fine20 N) (good20 N) (by kernel_rfl)

/-! ### 21: node.Node).Cores -/
def F21 (N : Nat) : V × H → Option (Int × H)
 | (a0, h) =>
 (F44 N (a0, h)).bind fun (x1, _) =>
 (if (!x1) = true then (
 some (0, h))
 else (
 none))
abbrev ks21 : List SK := [.one .ref]
abbrev rs21 : List SK := [.one (.int .i64)]
def e21 (N : Nat) : Env := ⟨Tryz.prog, 11, inTab [], inTab [], natTab [], inTab [], calTab [(44, .ro (mkFun ks44 rs44 (F44 N)))], altTab [], loopTab [], natTab [], inTab [3]⟩
theorem fine21 (N : Nat) : Fine (e21 N) N 21 Tryz.f21 ks21 rs21 (F21 N) :=
  ⟨Tryz.func21, by kernel_rfl, by kernel_rfl, by kernel_rfl, loops_of trivial, by kernel_rfl, by kernel_rfl, fun _ => by kernel_rfl⟩
theorem good21 (N : Nat) : Go.L.Good (e21 N) := good_of ⟨gd44 N, trivial⟩
theorem gd21 (N : Nat) : CalOk Tryz.prog 21 (.ro (mkFun ks21 rs21 (F21 N))) := mkFun_ro (fine21 N) (good21 N) (by kernel_rfl)

/-! ### 22: node.Node).Live -/
def F22 (N : Nat) : V × H → Option (V × H)
 | (a0, h) =>
 (F44 N (a0, h)).bind fun (x1, _) =>
 (if (!x1) = true then (
 some (.nils, h))
 else (
 none))
abbrev ks22 : List SK := [.one .ref]
abbrev rs22 : List SK := [.one .ref]
def e22 (N : Nat) : Env := ⟨Tryz.prog, 11, inTab [], inTab [], natTab [], inTab [], calTab [(44, .ro (mkFun ks44 rs44 (F44 N)))], altTab [], loopTab [], natTab [], inTab [3]⟩
theorem fine22 (N : Nat) : Fine (e22 N) N 22 Tryz.f22 ks22 rs22 (F22 N) :=
  ⟨Tryz.func22, by kernel_rfl, by kernel_rfl, by kernel_rfl, loops_of trivial, by kernel_rfl, by kernel_rfl, fun _ => by kernel_rfl⟩
theorem good22 (N : Nat) : Go.L.Good (e22 N) := good_of ⟨gd44 N, trivial⟩
theorem gd22 (N : Nat) : CalOk Tryz.prog 22 (.ro (mkFun ks22 rs22 (F22 N))) := mkFun_ro (fine22 N) (good22 N) (by kernel_rfl)

/-! ### 23: node.Node).Outs -/
def F23 (N : Nat) : V × H → Option (V × H)
 | (a0, h) =>
 (F44 N (a0, h)).bind fun (x1, _) =>
 (if (!x1) = true then (
 some (.nils, h))
 else (
 none))
abbrev ks23 : List SK := [.one .ref]
abbrev rs23 : List SK := [.one .ref]
def e23 (N : Nat) : Env := ⟨Tryz.prog, 11, inTab [], inTab [], natTab [], inTab [], calTab [(44, .ro (mkFun ks44 rs44 (F44 N)))], altTab [], loopTab [], natTab [], inTab [3]⟩
theorem fine23 (N : Nat) : Fine (e23 N) N 23 Tryz.f23 ks23 rs23 (F23 N) :=
  ⟨Tryz.func23, by kernel_rfl, by kernel_rfl, by kernel_rfl, loops_of trivial, by kernel_rfl, by kernel_rfl, fun _ => by kernel_rfl⟩
theorem good23 (N : Nat) : Go.L.Good (e23 N) := good_of ⟨gd44 N, trivial⟩
theorem gd23 (N : Nat) : CalOk Tryz.prog 23 (.ro (mkFun ks23 rs23 (F23 N))) := mkFun_ro (fine23 N) (good23 N) (by kernel_rfl)

/-! ### 24: node.Node).Events -/
def F24 (N : Nat) : V × H → Option (V × H)
 | (a0, h) =>
 (F44 N (a0, h)).bind fun (x1, _) =>
 (if (!x1) = true then (
 some (.nils, h))
 else (
 none))
abbrev ks24 : List SK := [.one .ref]
abbrev rs24 : List SK := [.one .ref]
def e24 (N : Nat) : Env := ⟨Tryz.prog, 11, inTab [], inTab [], natTab [], inTab [], calTab [(44, .ro (mkFun ks44 rs44 (F44 N)))], altTab [], loopTab [], natTab [], inTab [3]⟩
theorem fine24 (N : Nat) : Fine (e24 N) N 24 Tryz.f24 ks24 rs24 (F24 N) :=
  ⟨Tryz.func24, by kernel_rfl, by kernel_rfl, by kernel_rfl, loops_of trivial, by kernel_rfl, by kernel_rfl, fun _ => by kernel_rfl⟩
theorem good24 (N : Nat) : Go.L.Good (e24 N) := good_of ⟨gd44 N, trivial⟩
theorem gd24 (N : Nat) : CalOk Tryz.prog 24 (.ro (mkFun ks24 rs24 (F24 N))) := mkFun_ro (fine24 N) (good24 N) (by kernel_rfl)

/-! ### 25: node.Node).Dones -/
def F25 (N : Nat) : V × H → Option (V × H)
 | (a0, h) =>
 (F44 N (a0, h)).bind fun (x1, _) =>
 (if (!x1) = true then (
 some (.nils, h))
 else (
 none))
abbrev ks25 : List SK := [.one .ref]
abbrev rs25 : List SK := [.one .ref]
def e25 (N : Nat) : Env := ⟨Tryz.prog, 11, inTab [], inTab [], natTab [], inTab [], calTab [(44, .ro (mkFun ks44 rs44 (F44 N)))], altTab [], loopTab [], natTab [], inTab [3]⟩
theorem fine25 (N : Nat) : Fine (e25 N) N 25 Tryz.f25 ks25 rs25 (F25 N) :=
  ⟨Tryz.func25, by kernel_rfl, by kernel_rfl, by kernel_rfl, loops_of trivial, by kernel_rfl, by kernel_rfl, fun _ => by kernel_rfl⟩
theorem good25 (N : Nat) : Go.L.Good (e25 N) := good_of ⟨gd44 N, trivial⟩
theorem gd25 (N : Nat) : CalOk Tryz.prog 25 (.full (mkFun ks25 rs25 (F25 N))) := mkFun_good (fine25 N) (good25 N)
theorem gl25 (N : Nat) : CalOk Tryz.prog 25 (.gro (mkFun ks25 rs25 (locF true ks25 rs25 (F25 N)))) := loc_gro (gd25 N)

/-! ### 26: node.Node).Count -/
def F26 (N : Nat) : V × Int × H → Option (Int × H)
 | (a0, a1, h) =>
 (F44 N (a0, h)).bind fun (x1, _) =>
 (if (!x1) = true then (
 some (0, h))
 else (
 none))
abbrev ks26 : List SK := [.one .ref, .one (.int .i64)]
abbrev rs26 : List SK := [.one (.int .i64)]
def e26 (N : Nat) : Env := ⟨Tryz.prog, 14, inTab [], inTab [], natTab [], inTab [], calTab [(44, .ro (mkFun ks44 rs44 (F44 N)))], altTab [], loopTab [], natTab [], inTab [3]⟩
theorem fine26 (N : Nat) : Fine (e26 N) N 26 Tryz.f26 ks26 rs26 (F26 N) :=
  ⟨Tryz.func26, by kernel_rfl, by kernel_rfl, by kernel_rfl, loops_of trivial, by kernel_rfl, by kernel_rfl, fun _ => by kernel_rfl⟩
theorem good26 (N : Nat) : Go.L.Good (e26 N) := good_of ⟨gd44 N, trivial⟩
theorem gd26 (N : Nat) : CalOk Tryz.prog 26 (.ro (mkFun ks26 rs26 (F26 N))) := mkFun_ro (fine26 N) (good26 N) (by kernel_rfl)

/-! ### 27: node.Node).Copy -/
def F27 (N : Nat) : V × H → Option (V × H)
 | (a0, h) =>
 (F44 N (a0, h)).bind fun (x1, _) =>
 (if (!x1) = true then (
 some (.nilp, h))
 else (
 none))
abbrev ks27 : List SK := [.one .ref]
abbrev rs27 : List SK := [.one .ref]
def e27 (N : Nat) : Env := ⟨Tryz.prog, 31, inTab [], inTab [], natTab [], inTab [], calTab [(44, .ro (mkFun ks44 rs44 (F44 N)))], altTab [], loopTab [], natTab [], inTab [3, 4, 5, 6]⟩
theorem fine27 (N : Nat) : Fine (e27 N) N 27 Tryz.f27 ks27 rs27 (F27 N) :=
  ⟨Tryz.func27, by kernel_rfl, by kernel_rfl, by kernel_rfl, loops_of trivial, by kernel_rfl, by kernel_rfl, fun _ => by kernel_rfl⟩
theorem good27 (N : Nat) : Go.L.Good (e27 N) := good_of ⟨gd44 N, trivial⟩
theorem gd27 (N : Nat) : CalOk Tryz.prog 27 (.ro (mkFun ks27 rs27 (F27 N))) := mkFun_ro (fine27 N) (good27 N) (by kernel_rfl)

/-! ### 100: tie.New -/
def F100 (N : Nat) : H → Option (V × H)
 | h =>
 (some (h ++ [O.map 0 [] []]) : Option H).bind fun h1 =>
 (some (h1 ++ [O.map 0 [] []]) : Option H).bind fun h2 =>
 (ck1 (.map (h).length)).bind fun _ =>
 (ck1 (.map (h1).length)).bind fun _ =>
 (some (h2 ++ [O.cells 0 [(.map (h).length), (.map (h1).length)]]) : Option H).bind fun h3 =>
 some ((.ptr (h2).length 0 0), h3)
abbrev ks100 : List SK := []
abbrev rs100 : List SK := [.one .ref]
def e100 (N : Nat) : Env := ⟨Tryz.prog, 5, inTab [], inTab [], natTab [], inTab [], calTab [], altTab [], loopTab [], natTab [], inTab []⟩
theorem fine100 (N : Nat) : Fine (e100 N) N 100 Tryz.f100 ks100 rs100 (F100 N) :=
  ⟨Tryz.func100, by kernel_rfl, by kernel_rfl, by kernel_rfl, loops_of trivial, by kernel_rfl, by kernel_rfl, fun _ => by kernel_rfl⟩
theorem good100 (N : Nat) : Go.L.Good (e100 N) := good_of trivial
theorem gdg100 (N : Nat) : CalOk Tryz.prog 100 (.gro (mkFun ks100 rs100 (F100 N))) := mkFun_groC (fine100 N) (good100 N) (by kernel_rfl)

/-! ### 101: table.New -/
def F101 (N : Nat) : Int × H → Option (V × Int × H)
 | (a0, h) =>
 (if (decide (a0 < 1)) = true then (
 some (true, h))
 else (
 some ((decide (a0 > 256)), h))).bind fun (b1, h2) =>
 (if b1 = true then (
 none)
 else (
 (if 0 ≤ a0 then (if a0 ≤ a0 then (if a0 * ((3 : Nat) : Int) ≤ ((mostCells : Nat) : Int) then (
 (some (h2 ++ [O.cells 0 (repeatC (Int.toNat a0) [(.int .i64 0), (.bool false), (.str (ByteArray.mk #[]))])]) : Option H).bind fun h3 =>
 (some (h3 ++ [O.map 0 [] []]) : Option H).bind fun h4 =>
 (ck1 (.sl (h2).length 0 0 (Int.toNat a0) 3 (some (Int.toNat a0)))).bind fun _ =>
 (ck1 (.map (h3).length)).bind fun _ =>
 (some (h4 ++ [O.cells 0 [(.sl (h2).length 0 0 (Int.toNat a0) 3 (some (Int.toNat a0))), (.map (h3).length)]]) : Option H).bind fun h5 =>
 some ((.ptr (h4).length 0 0), 0, h5)) else none) else none) else none)))
abbrev ks101 : List SK := [.one (.int .i64)]
abbrev rs101 : List SK := [.one .ref, .one (.int .i64)]
def e101 (N : Nat) : Env := ⟨Tryz.prog, 15, inTab [], inTab [], natTab [], inTab [], calTab [], altTab [], loopTab [], natTab [], inTab [2]⟩
theorem fine101 (N : Nat) : Fine (e101 N) N 101 Tryz.f101 ks101 rs101 (F101 N) :=
  ⟨Tryz.func101, by kernel_rfl, by kernel_rfl, by kernel_rfl, loops_of trivial, by kernel_rfl, by kernel_rfl, fun _ => by kernel_rfl⟩
theorem good101 (N : Nat) : Go.L.Good (e101 N) := good_of trivial
theorem gdg101 (N : Nat) : CalOk Tryz.prog 101 (.gro (mkFun ks101 rs101 (F101 N))) := mkFun_groC (fine101 N) (good101 N) (by kernel_rfl)

/-! ### 102: homes.New -/
def F102 (N : Nat) : Int × H → Option (V × Int × H)
 | (a0, h) =>
 (if (decide (a0 < 1)) = true then (
 some (true, h))
 else (
 some ((decide (a0 > 16)), h))).bind fun (b1, h2) =>
 (if b1 = true then (
 none)
 else (
 (some (h2 ++ [O.cells 0 ((.int .i64 a0) :: List.replicate 48 (.int .i64 0))]) : Option H).bind fun h3 =>
 some ((.ptr (h2).length 0 0), 0, h3)))
abbrev ks102 : List SK := [.one (.int .i64)]
abbrev rs102 : List SK := [.one .ref, .one (.int .i64)]
def e102 (N : Nat) : Env := ⟨Tryz.prog, 13, inTab [], inTab [], natTab [], inTab [], calTab [], altTab [], loopTab [], natTab [], inTab [2]⟩
theorem fine102 (N : Nat) : Fine (e102 N) N 102 Tryz.f102 ks102 rs102 (F102 N) :=
  ⟨Tryz.func102, by kernel_rfl, by kernel_rfl, by kernel_rfl, loops_of trivial, by kernel_rfl, by kernel_rfl, fun _ => by kernel_rfl⟩
theorem good102 (N : Nat) : Go.L.Good (e102 N) := good_of trivial
theorem gdg102 (N : Nat) : CalOk Tryz.prog 102 (.gro (mkFun ks102 rs102 (F102 N))) := mkFun_groC (fine102 N) (good102 N) (by kernel_rfl)

/-! ### 103: log.New -/
def F103 (N : Nat) : Int × H → Option (V × Int × H)
 | (a0, h) =>
 (if (decide (a0 < 1)) = true then (
 some (true, h))
 else (
 some ((decide (a0 > 4096)), h))).bind fun (b1, h2) =>
 (if b1 = true then (
 none)
 else (
 (some (h2 ++ [O.cells 0 ((.int .i64 a0) :: .nils :: List.replicate 34 (.int .i64 0))]) : Option H).bind fun h3 =>
 some ((.ptr (h2).length 0 0), 0, h3)))
abbrev ks103 : List SK := [.one (.int .i64)]
abbrev rs103 : List SK := [.one .ref, .one (.int .i64)]
def e103 (N : Nat) : Env := ⟨Tryz.prog, 13, inTab [], inTab [], natTab [], inTab [], calTab [], altTab [], loopTab [], natTab [], inTab [2]⟩
theorem fine103 (N : Nat) : Fine (e103 N) N 103 Tryz.f103 ks103 rs103 (F103 N) :=
  ⟨Tryz.func103, by kernel_rfl, by kernel_rfl, by kernel_rfl, loops_of trivial, by kernel_rfl, by kernel_rfl, fun _ => by kernel_rfl⟩
theorem good103 (N : Nat) : Go.L.Good (e103 N) := good_of trivial
theorem gdg103 (N : Nat) : CalOk Tryz.prog 103 (.gro (mkFun ks103 rs103 (F103 N))) := mkFun_groC (fine103 N) (good103 N) (by kernel_rfl)

/-! ### 390: api.Entry] -/
def F390 (N : Nat) : Int × H → Option (V × Int × H)
 | (a0, h) =>
 (if (decide (a0 < 1)) = true then (
 some (true, h))
 else (
 some ((decide (a0 > 65536)), h))).bind fun (b1, h2) =>
 (if b1 = true then (
 none)
 else (
 (some (h2 ++ [O.cells 0 [(.int .i64 a0), .nils]]) : Option H).bind fun h3 =>
 some ((.ptr (h2).length 0 0), 0, h3)))
abbrev ks390 : List SK := [.one (.int .i64)]
abbrev rs390 : List SK := [.one .ref, .one (.int .i64)]
def e390 (N : Nat) : Env := ⟨Tryz.prog, 13, inTab [], inTab [], natTab [], inTab [], calTab [], altTab [], loopTab [], natTab [], inTab [2]⟩
theorem fine390 (N : Nat) : Fine (e390 N) N 390 Tryz.f390 ks390 rs390 (F390 N) :=
  ⟨Tryz.func390, by kernel_rfl, by kernel_rfl, by kernel_rfl, loops_of trivial, by kernel_rfl, by kernel_rfl, fun _ => by kernel_rfl⟩
theorem good390 (N : Nat) : Go.L.Good (e390 N) := good_of trivial
theorem gdg390 (N : Nat) : CalOk Tryz.prog 390 (.gro (mkFun ks390 rs390 (F390 N))) := mkFun_groC (fine390 N) (good390 N) (by kernel_rfl)

/-! ### 308: core.filled -/
def F308 (N : Nat) : V × H → Option (V × H)
 | (a0, h) =>
 (F390 N (64, h)).bind fun (x1, x2, h3) =>
 (F358 N (x1, a0, h3)).bind fun (x4, h5) =>
 (ck1 x1).bind fun _ =>
 some (x1, h5)
abbrev ks308 : List SK := [.one .ref]
abbrev rs308 : List SK := [.agg [.ref]]
def e308 (N : Nat) : Env := ⟨Tryz.prog, 14, inTab [2], inTab [], natTab [(2, 2)], inTab [], calTab [(390, .gro (mkFun ks390 rs390 (F390 N))), (358, .full (mkFun ks358 rs358 (F358 N)))], altTab [], loopTab [], natTab [], inTab []⟩
theorem fine308 (N : Nat) : Fine (e308 N) N 308 Tryz.f308 ks308 rs308 (F308 N) :=
  ⟨Tryz.func308, by kernel_rfl, by kernel_rfl, by kernel_rfl, loops_of trivial, by kernel_rfl, by kernel_rfl, fun _ => by kernel_rfl⟩
theorem good308 (N : Nat) : Go.L.Good (e308 N) := good_of ⟨gdg390 N, ⟨gd358 N, trivial⟩⟩
theorem gd308 (N : Nat) : CalOk Tryz.prog 308 (.full (mkFun ks308 rs308 (F308 N))) := mkFun_good (fine308 N) (good308 N)

/-! ### 203: core.Load -/
def L203_1 (N : Nat) : Nat → V × Int × Bool × List V × Int × Int × Int × List V × H → Option (V × Int × Bool × List V × Int × List V × H)
 | 0, _ => none
 | n + 1, (x25, x26, x27, cs28, x29, x30, x31, cs32, h33) =>
 (if (decide (x31 < x30)) = true then (
 none)
 else (
 some (x25, x26, x27, cs28, x29, cs32, h33)))
def L203_0 (N : Nat) : Nat → V × Int × Bool × List V × Int × List V × H → Option (V × Int × Bool × List V × H)
 | 0, _ => none
 | n + 1, (x41, x42, x43, cs44, x45, cs46, h47) =>
 (if (decide (x45 < 3)) = true then (
 (if 0 ≤ x45 then (if x45 < 3 then (
 ((cs44)[Int.toNat x45 * 1]?).bind fun x48 =>
 (if x43 = true then (
 some (true, h47))
 else (
 (slen x48).bind fun n51 =>
 some ((decide (n51 > 64)), h47))).bind fun (b49, h50) =>
 (slen x48).bind fun n52 =>
 (L203_1 N N (x41, x42, b49, cs44, x45, n52, 0, cs46, h50)).bind fun (x53, x54, x55, cs56, x57, cs58, h59) =>
 L203_0 N n (x53, x54, x55, cs56, (IntKind.i64.wrap (x57 + 1)), cs58, h59)) else none) else none))
 else (
 some (x41, x42, x43, cs46, h47)))
def L203_2 (N : Nat) : Nat → V × List V × Int × H → Option (V × H)
 | 0, _ => none
 | n + 1, (x81, cs82, x83, h84) =>
 (if (decide (x83 < 3)) = true then (
 (if 0 ≤ x83 then (if x83 < 3 then (
 ((cs82)[Int.toNat x83 * 1]?).bind fun x85 =>
 (F308 N (x85, h84)).bind fun (x86, h87) =>
 (nck x81).bind fun _ =>
 (aidx (padd x81 2) x83 3 1).bind fun q88 =>
 (wr h87 q88 [x86]).bind fun h89 =>
 L203_2 N n (x81, cs82, (IntKind.i64.wrap (x83 + 1)), h89)) else none) else none))
 else (
 some (x81, h84)))
def F203 (N : Nat) : V × Int × List V × H → Option (V × Int × H)
 | (a0, a1, a2, h) =>
 (if (a2).length = 3 then (
 (F99 N (a0, h)).bind fun (x1, _) =>
 (if (x1 != 0) = true then (
 none)
 else (
 (some (h ++ [O.map 0 [] []]) : Option H).bind fun h2 =>
 ((if 0 + 3 ≤ (a2).length then some (((a2).drop 0).take 3) else none) : Option (List V)).bind fun cs3 =>
 (L203_0 N N (a0, a1, false, cs3, 0, a2, h2)).bind fun (x60, x61, x62, cs63, h64) =>
 (if (decide (x61 < 0)) = true then (
 some (true, h64))
 else (
 (slen x60).bind fun n67 =>
 some ((decide (x61 ≥ n67)), h64))).bind fun (b65, h66) =>
 (if b65 = true then (
 none)
 else (
 (if x62 = true then (
 none)
 else (
 Option.bind (α := (V × H)) (locF true ks47 rs47 (F47 N) ((x60, h66) : V × H)) fun (x68, h69) =>
 (ck1 x68).bind fun _ =>
 (some (h69 ++ [O.cells 0 [x68, (.int .i64 x61), .nilp, .nilp, .nilp]]) : Option H).bind fun h70 =>
 ((if 0 + 3 ≤ (cs63).length then some (((cs63).drop 0).take 3) else none) : Option (List V)).bind fun cs71 =>
 (L203_2 N N ((.ptr (h69).length 0 0), cs71, 0, h70)).bind fun (x90, h91) =>
 some (x90, 0, h91)))))))) else none)
abbrev ks203 : List SK := [.one .ref, .one (.int .i64), .blk]
abbrev rs203 : List SK := [.one .ref, .one (.int .i64)]
def e203 (N : Nat) : Env := ⟨Tryz.prog, 84, inTab [5, 14], inTab [], natTab [(5, 5), (14, 14), (41, 14), (48, 14)], inTab [], calTab [(99, .ro (mkFun ks99 rs99 (F99 N))), (47, .gro (mkFun ks47 rs47 (locF true ks47 rs47 (F47 N)))), (308, .full (mkFun ks308 rs308 (F308 N)))], altTab [], loopTab [(7, ⟨⟨.normal, [0, 1, 5, 10, 24, 25], [.one .ref, .one (.int .i64), .lp 5 0, .one .bool, .blk, .one (.int .i64)], [5], [.blk]⟩, [⟨(.exit 0), [0, 1, 5, 10], [.one .ref, .one (.int .i64), .lp 5 0, .one .bool], [5], [.blk]⟩], L203_0 N⟩), (11, ⟨⟨.normal, [0, 1, 5, 10, 24, 25, 35, 36], [.one .ref, .one (.int .i64), .lp 5 0, .one .bool, .blk, .one (.int .i64), .one (.int .i64), .one (.int .i64)], [5], [.blk]⟩, [⟨(.exit 2), [0, 1, 5, 10, 24, 25], [.one .ref, .one (.int .i64), .lp 5 0, .one .bool, .blk, .one (.int .i64)], [5], [.blk]⟩], L203_1 N⟩), (24, ⟨⟨.normal, [15, 70, 71], [.one .ref, .blk, .one (.int .i64)], [], []⟩, [⟨(.exit 5), [15], [.one .ref], [], []⟩], L203_2 N⟩)], natTab [], inTab [3, 12, 13, 14, 15, 16, 19, 21]⟩
theorem l203_0 (N : Nat) : ∀ A, (e203 N).lp (lid (loopAt Tryz.f203 0)) = some A → LoopOk (e203 N) N (loopAt Tryz.f203 0) A :=
  loopOk_of (A := ⟨⟨.normal, [0, 1, 5, 10, 24, 25], [.one .ref, .one (.int .i64), .lp 5 0, .one .bool, .blk, .one (.int .i64)], [5], [.blk]⟩, [⟨(.exit 0), [0, 1, 5, 10], [.one .ref, .one (.int .i64), .lp 5 0, .one .bool], [5], [.blk]⟩], L203_0 N⟩) (by kernel_rfl) (fun _ => rfl) (fun _ _ => by kernel_rfl)
theorem l203_1 (N : Nat) : ∀ A, (e203 N).lp (lid (loopAt Tryz.f203 1)) = some A → LoopOk (e203 N) N (loopAt Tryz.f203 1) A :=
  loopOk_of (A := ⟨⟨.normal, [0, 1, 5, 10, 24, 25, 35, 36], [.one .ref, .one (.int .i64), .lp 5 0, .one .bool, .blk, .one (.int .i64), .one (.int .i64), .one (.int .i64)], [5], [.blk]⟩, [⟨(.exit 2), [0, 1, 5, 10, 24, 25], [.one .ref, .one (.int .i64), .lp 5 0, .one .bool, .blk, .one (.int .i64)], [5], [.blk]⟩], L203_1 N⟩) (by kernel_rfl) (fun _ => rfl) (fun _ _ => by kernel_rfl)
theorem l203_2 (N : Nat) : ∀ A, (e203 N).lp (lid (loopAt Tryz.f203 2)) = some A → LoopOk (e203 N) N (loopAt Tryz.f203 2) A :=
  loopOk_of (A := ⟨⟨.normal, [15, 70, 71], [.one .ref, .blk, .one (.int .i64)], [], []⟩, [⟨(.exit 5), [15], [.one .ref], [], []⟩], L203_2 N⟩) (by kernel_rfl) (fun _ => rfl) (fun _ _ => by kernel_rfl)
theorem fine203 (N : Nat) : Fine (e203 N) N 203 Tryz.f203 ks203 rs203 (F203 N) :=
  ⟨Tryz.func203, by kernel_rfl, by kernel_rfl, by kernel_rfl, loops_of ⟨l203_0 N, ⟨l203_1 N, ⟨l203_2 N, trivial⟩⟩⟩, by kernel_rfl, by kernel_rfl, fun _ => by kernel_rfl⟩
theorem good203 (N : Nat) : Go.L.Good (e203 N) := good_of ⟨gd99 N, ⟨gl47 N, ⟨gd308 N, trivial⟩⟩⟩
theorem gd203 (N : Nat) : CalOk Tryz.prog 203 (.full (mkFun ks203 rs203 (F203 N))) := mkFun_good (fine203 N) (good203 N)

/-! ### 104: core.New -/
def F104 (N : Nat) : V × H → Option (V × Int × H)
 | (a0, h) =>
 (F203 N (a0, 0, [.nils, .nils, .nils], h)).bind fun (x1, x2, h3) =>
 some (x1, x2, h3)
abbrev ks104 : List SK := [.one .ref]
abbrev rs104 : List SK := [.one .ref, .one (.int .i64)]
def e104 (N : Nat) : Env := ⟨Tryz.prog, 9, inTab [], inTab [], natTab [], inTab [], calTab [(203, .full (mkFun ks203 rs203 (F203 N)))], altTab [], loopTab [], natTab [], inTab []⟩
theorem fine104 (N : Nat) : Fine (e104 N) N 104 Tryz.f104 ks104 rs104 (F104 N) :=
  ⟨Tryz.func104, by kernel_rfl, by kernel_rfl, by kernel_rfl, loops_of trivial, by kernel_rfl, by kernel_rfl, fun _ => by kernel_rfl⟩
theorem good104 (N : Nat) : Go.L.Good (e104 N) := good_of ⟨gd203 N, trivial⟩
theorem gd104 (N : Nat) : CalOk Tryz.prog 104 (.full (mkFun ks104 rs104 (F104 N))) := mkFun_good (fine104 N) (good104 N)

/-! ### 105: timer.New -/
def F105 (N : Nat) : Int × H → Option (V × Int × H)
 | (a0, h) =>
 (if (decide (a0 < 0)) = true then (
 some (true, h))
 else (
 some ((decide (a0 > 4611686018426339327)), h))).bind fun (b1, h2) =>
 (if b1 = true then (
 none)
 else (
 (some (h2 ++ [O.cells 0 ((.bool true) :: (.int .i64 a0) :: (.int .i64 0) :: List.replicate 257 .nils)]) : Option H).bind fun h3 =>
 some ((.ptr (h2).length 0 0), 0, h3)))
abbrev ks105 : List SK := [.one (.int .i64)]
abbrev rs105 : List SK := [.one .ref, .one (.int .i64)]
def e105 (N : Nat) : Env := ⟨Tryz.prog, 13, inTab [], inTab [], natTab [], inTab [], calTab [], altTab [], loopTab [], natTab [], inTab [2]⟩
theorem fine105 (N : Nat) : Fine (e105 N) N 105 Tryz.f105 ks105 rs105 (F105 N) :=
  ⟨Tryz.func105, by kernel_rfl, by kernel_rfl, by kernel_rfl, loops_of trivial, by kernel_rfl, by kernel_rfl, fun _ => by kernel_rfl⟩
theorem good105 (N : Nat) : Go.L.Good (e105 N) := good_of trivial
theorem gdg105 (N : Nat) : CalOk Tryz.prog 105 (.gro (mkFun ks105 rs105 (F105 N))) := mkFun_groC (fine105 N) (good105 N) (by kernel_rfl)

/-! ### 34: node.New -/
def L34_0 (N : Nat) : Nat → V × V × Int × Int × H → Option (V × H)
 | 0, _ => none
 | n + 1, (x37, x38, x39, x40, h41) =>
 (if (decide (x40 < x39)) = true then (
 (F104 N (x37, h41)).bind fun (x42, x43, h44) =>
 (F105 N (0, h44)).bind fun (x45, x46, h47) =>
 (nck x38).bind fun _ =>
 ((rd h47 (padd x38 5) 0)).bind fun x48 =>
 (ck1 x42).bind fun _ =>
 (ck1 x45).bind fun _ =>
 (happ h47 x48 4 1 [x42, x45, (.int .i64 0), (.int .i64 0)]).bind fun (v49, h50) =>
 (nck x38).bind fun _ =>
 (ck1 v49).bind fun _ =>
 (wr h50 (padd x38 5) [v49]).bind fun h51 =>
 L34_0 N n (x37, x38, x39, (IntKind.i64.wrap (x40 + 1)), h51))
 else (
 some (x38, h41)))
def F34 (N : Nat) : Int × V × H → Option (V × Int × H)
 | (a0, a1, h) =>
 (if (decide (a0 < 1)) = true then (
 some (true, h))
 else (
 some ((decide (a0 > 16)), h))).bind fun (b1, h2) =>
 (if b1 = true then (
 none)
 else (
 (F99 N (a1, h2)).bind fun (x3, _) =>
 (if (x3 != 0) = true then (
 none)
 else (
 Option.bind (α := (V × H)) (locF true ks47 rs47 (F47 N) ((a1, h2) : V × H)) fun (x4, h5) =>
 (F100 N h5).bind fun (x6, h7) =>
 (some (h7 ++ [O.map 0 [] []]) : Option H).bind fun h8 =>
 (ck1 x4).bind fun _ =>
 (ck1 x6).bind fun _ =>
 (ck1 (.map (h7).length)).bind fun _ =>
 (some (h8 ++ [O.cells 0 [x4, .nils, .nilp, .nilp, x6, .nils, (.map (h7).length), (.int .i64 0), (.int .i64 1), .nils, .nilp, .nils, (.int .i64 0), .nils]]) : Option H).bind fun h9 =>
 (F101 N (256, h9)).bind fun (x10, x11, h12) =>
 (ck1 x10).bind fun _ =>
 (wr h12 (.ptr (h8).length 0 2) [x10]).bind fun h13 =>
 (F102 N (a0, h13)).bind fun (x14, x15, h16) =>
 (ck1 x14).bind fun _ =>
 (wr h16 (.ptr (h8).length 0 3) [x14]).bind fun h17 =>
 (F103 N (4096, h17)).bind fun (x18, x19, h20) =>
 (ck1 x18).bind fun _ =>
 (wr h20 (.ptr (h8).length 0 10) [x18]).bind fun h21 =>
 (L34_0 N N (a1, (.ptr (h8).length 0 0), a0, 0, h21)).bind fun (x52, h53) =>
 some (x52, 0, h53)))))
abbrev ks34 : List SK := [.one (.int .i64), .one .ref]
abbrev rs34 : List SK := [.one .ref, .one (.int .i64)]
def e34 (N : Nat) : Env := ⟨Tryz.prog, 77, inTab [71], inTab [], natTab [], inTab [], calTab [(99, .ro (mkFun ks99 rs99 (F99 N))), (47, .gro (mkFun ks47 rs47 (locF true ks47 rs47 (F47 N)))), (100, .gro (mkFun ks100 rs100 (F100 N))), (101, .gro (mkFun ks101 rs101 (F101 N))), (102, .gro (mkFun ks102 rs102 (F102 N))), (103, .gro (mkFun ks103 rs103 (F103 N))), (104, .full (mkFun ks104 rs104 (F104 N))), (105, .gro (mkFun ks105 rs105 (F105 N)))], altTab [], loopTab [(11, ⟨⟨.normal, [1, 7, 51, 52], [.one .ref, .one .ref, .one (.int .i64), .one (.int .i64)], [], []⟩, [⟨(.exit 0), [7], [.one .ref], [], []⟩], L34_0 N⟩)], natTab [], inTab [2, 5]⟩
theorem l34_0 (N : Nat) : ∀ A, (e34 N).lp (lid (loopAt Tryz.f34 0)) = some A → LoopOk (e34 N) N (loopAt Tryz.f34 0) A :=
  loopOk_of (A := ⟨⟨.normal, [1, 7, 51, 52], [.one .ref, .one .ref, .one (.int .i64), .one (.int .i64)], [], []⟩, [⟨(.exit 0), [7], [.one .ref], [], []⟩], L34_0 N⟩) (by kernel_rfl) (fun _ => rfl) (fun _ _ => by kernel_rfl)
theorem fine34 (N : Nat) : Fine (e34 N) N 34 Tryz.f34 ks34 rs34 (F34 N) :=
  ⟨Tryz.func34, by kernel_rfl, by kernel_rfl, by kernel_rfl, loops_of ⟨l34_0 N, trivial⟩, by kernel_rfl, by kernel_rfl, fun _ => by kernel_rfl⟩
theorem good34 (N : Nat) : Go.L.Good (e34 N) := good_of ⟨gd99 N, ⟨gl47 N, ⟨gdg100 N, ⟨gdg101 N, ⟨gdg102 N, ⟨gdg103 N, ⟨gd104 N, ⟨gdg105 N, trivial⟩⟩⟩⟩⟩⟩⟩⟩
theorem gd34 (N : Nat) : CalOk Tryz.prog 34 (.full (mkFun ks34 rs34 (F34 N))) := mkFun_good (fine34 N) (good34 N)
theorem gl34 (N : Nat) : CalOk Tryz.prog 34 (.full (mkFun ks34 rs34 (locF false ks34 rs34 (F34 N)))) := loc_full (gd34 N)


end
end Go.Proofs.YtgipaccfnlklcaaGreat
