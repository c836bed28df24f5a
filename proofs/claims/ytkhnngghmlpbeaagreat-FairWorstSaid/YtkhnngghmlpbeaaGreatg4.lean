/- The functions that the law reaches, as plain ones (printed by gen.py). -/
import Derived.Test.YtkhnngghmlpbeaaGreatg3
set_option linter.unusedVariables false
set_option maxRecDepth 100000
namespace Go.Proofs.YtkhnngghmlpbeaaGreat
noncomputable section
open Go.L

/-! ### 475: bits.Len64 -/
def F475 (N : Nat) : Int × H → Option (Int × H)
 | (a0, h) =>
 (if (decide (a0 ≥ 4294967296)) = true then (
 none)
 else (
 (if (decide (a0 ≥ 65536)) = true then (
 none)
 else (
 (if (decide (a0 ≥ 256)) = true then (
 none)
 else (
 (if 0 ≤ (IntKind.u8.wrap a0) then ((ByteArray.mk #[0, 1, 2, 2, 3, 3, 3, 3, 4, 4, 4, 4, 4, 4, 4, 4, 5, 5, 5, 5, 5, 5, 5, 5, 5, 5, 5, 5, 5, 5, 5, 5, 6, 6, 6, 6, 6, 6, 6, 6, 6, 6, 6, 6, 6, 6, 6, 6, 6, 6, 6, 6, 6, 6, 6, 6, 6, 6, 6, 6, 6, 6, 6, 6, 7, 7, 7, 7, 7, 7, 7, 7, 7, 7, 7, 7, 7, 7, 7, 7, 7, 7, 7, 7, 7, 7, 7, 7, 7, 7, 7, 7, 7, 7, 7, 7, 7, 7, 7, 7, 7, 7, 7, 7, 7, 7, 7, 7, 7, 7, 7, 7, 7, 7, 7, 7, 7, 7, 7, 7, 7, 7, 7, 7, 7, 7, 7, 7, 8, 8, 8, 8, 8, 8, 8, 8, 8, 8, 8, 8, 8, 8, 8, 8, 8, 8, 8, 8, 8, 8, 8, 8, 8, 8, 8, 8, 8, 8, 8, 8, 8, 8, 8, 8, 8, 8, 8, 8, 8, 8, 8, 8, 8, 8, 8, 8, 8, 8, 8, 8, 8, 8, 8, 8, 8, 8, 8, 8, 8, 8, 8, 8, 8, 8, 8, 8, 8, 8, 8, 8, 8, 8, 8, 8, 8, 8, 8, 8, 8, 8, 8, 8, 8, 8, 8, 8, 8, 8, 8, 8, 8, 8, 8, 8, 8, 8, 8, 8, 8, 8, 8, 8, 8, 8, 8, 8, 8, 8, 8, 8, 8, 8, 8, 8, 8, 8, 8, 8, 8, 8, 8, 8, 8, 8, 8, 8])[Int.toNat (IntKind.u8.wrap a0)]?.bind fun c1 =>
 some ((IntKind.i64.wrap (0 + (IntKind.i64.wrap ((UInt8.toNat c1 : Nat) : Int)))), h)) else none)))))))
abbrev ks475 : List SK := [.one (.int .u64)]
abbrev rs475 : List SK := [.one (.int .i64)]
def e475 (N : Nat) : Env := ⟨Tryz.prog, 25, inTab [], inTab [], natTab [], inTab [], calTab [], altTab [], loopTab [], natTab [], inTab [2, 3, 5, 6, 8, 9]⟩
theorem fine475 (N : Nat) : Fine (e475 N) N 475 Tryz.f475 ks475 rs475 (F475 N) :=
  ⟨Tryz.func475, by kernel_rfl, by kernel_rfl, by kernel_rfl, loops_of trivial, by kernel_rfl, by kernel_rfl, fun _ => by kernel_rfl⟩
theorem good475 (N : Nat) : Go.L.Good (e475 N) := good_of trivial
theorem gd475 : CalOk Tryz.prog 475 (.pure (mkP ks475 rs475 (F475 100))) := mkP_good (fine475 100) (good475 100) (by kernel_rfl) (by kernel_rfl)

/-! ### 382: bits.Len -/
def F382 (N : Nat) : Int × H → Option (Int × H)
 | (a0, h) =>
 (if false = true then (
 none)
 else (
 (F475 100 (a0, [])).bind fun (x1, _) =>
 some (x1, h)))
abbrev ks382 : List SK := [.one (.int .u64)]
abbrev rs382 : List SK := [.one (.int .i64)]
def e382 (N : Nat) : Env := ⟨Tryz.prog, 8, inTab [], inTab [], natTab [], inTab [], calTab [(475, .pure (mkP ks475 rs475 (F475 100)))], altTab [], loopTab [], natTab [], inTab [1]⟩
theorem fine382 (N : Nat) : Fine (e382 N) N 382 Tryz.f382 ks382 rs382 (F382 N) :=
  ⟨Tryz.func382, by kernel_rfl, by kernel_rfl, by kernel_rfl, loops_of trivial, by kernel_rfl, by kernel_rfl, fun _ => by kernel_rfl⟩
theorem good382 (N : Nat) : Go.L.Good (e382 N) := good_of ⟨gd475, trivial⟩
theorem gd382 : CalOk Tryz.prog 382 (.pure (mkP ks382 rs382 (F382 100))) := mkP_good (fine382 100) (good382 100) (by kernel_rfl) (by kernel_rfl)

/-! ### 536: timer.entry] -/
def L536_0 (N : Nat) : Nat → Int × Int × H → Option (H)
 | 0, _ => none
 | n + 1, (x4, x5, h6) =>
 (if (decide (x5 < x4)) = true then (
 none)
 else (
 some h6))
def F536 (N : Nat) : V × Int × Int × V × H → Option (H)
 | (a0, a1, a2, a3, h) =>
 (L536_0 N N (a2, (IntKind.i64.wrap (a1 + 1)), h)).bind fun h7 =>
 some h7
abbrev ks536 : List SK := [.one .ref, .one (.int .i64), .one (.int .i64), .one .ref]
abbrev rs536 : List SK := []
def e536 (N : Nat) : Env := ⟨Tryz.prog, 53, inTab [], inTab [], natTab [], inTab [], calTab [], altTab [], loopTab [(1, ⟨⟨.normal, [2, 8], [.one (.int .i64), .one (.int .i64)], [], []⟩, [⟨(.exit 0), [], [], [], []⟩], L536_0 N⟩)], natTab [], inTab [2, 3, 4, 5, 6]⟩
theorem l536_0 (N : Nat) : ∀ A, (e536 N).lp (lid (loopAt Tryz.f536 0)) = some A → LoopOk (e536 N) N (loopAt Tryz.f536 0) A :=
  loopOk_of (A := ⟨⟨.normal, [2, 8], [.one (.int .i64), .one (.int .i64)], [], []⟩, [⟨(.exit 0), [], [], [], []⟩], L536_0 N⟩) (by kernel_rfl) (fun _ => rfl) (fun _ _ => by kernel_rfl)
theorem lv536_1 (N : Nat) : ∀ A, (e536 N).lp (lid (loopAt Tryz.f536 1)) = some A → LoopOk (e536 N) N (loopAt Tryz.f536 1) A := fun A h => by
 rw [show (e536 N).lp (lid (loopAt Tryz.f536 1)) = none by kernel_rfl] at h; cases h
theorem fine536 (N : Nat) : Fine (e536 N) N 536 Tryz.f536 ks536 rs536 (F536 N) :=
  ⟨Tryz.func536, by kernel_rfl, by kernel_rfl, by kernel_rfl, loops_of ⟨l536_0 N, ⟨lv536_1 N, trivial⟩⟩, by kernel_rfl, by kernel_rfl, fun _ => by kernel_rfl⟩
theorem good536 (N : Nat) : Go.L.Good (e536 N) := good_of trivial
theorem gdg536 (N : Nat) : CalOk Tryz.prog 536 (.gro (mkFun ks536 rs536 (F536 N))) := mkFun_groC (fine536 N) (good536 N) (by kernel_rfl)

/-! ### 465: timer.entry] -/
def L465_0 (N : Nat) (rec : V × Int × Int × Int × V × H → Option (H)) : Nat → V × Int × Int × V × H → Option (H)
 | 0, _ => none
 | n + 1, (x7, x8, x9, x10, h11) =>
 (if (decide ((IntKind.i64.wrap (x9 - x8)) ≤ 12)) = true then (
 (F536 N (x7, x8, x9, x10, h11)).bind fun h12 =>
 some h12)
 else (
 none))
def F465 (N : Nat) : Nat → V × Int × Int × Int × V × H → Option (H)
 | 0, _ => none
 | d + 1, (a0, a1, a2, a3, a4, h) =>
 (L465_0 N (F465 N d) N (a0, a1, a2, a4, h)).bind fun h13 =>
 some h13
abbrev ks465 : List SK := [.one .ref, .one (.int .i64), .one (.int .i64), .one (.int .i64), .one .ref]
abbrev rs465 : List SK := []
def e465 (N d : Nat) : Env := ⟨Tryz.prog, 148, inTab [], inTab [], natTab [], inTab [], calTab [(536, .gro (mkFun ks536 rs536 (F536 N)))], altTab [], loopTab [(2, ⟨⟨.normal, [0, 1, 2, 4], [.one .ref, .one (.int .i64), .one (.int .i64), .one .ref], [], []⟩, [⟨.ret, [], [], [], []⟩], L465_0 N (F465 N d)⟩)], natTab [], inTab [5, 6, 7, 8, 9, 10, 11, 12, 13, 14, 15, 16, 17, 18, 19, 20, 21, 22, 23, 24, 25, 26, 27, 28, 29, 30]⟩
theorem l465_0 (N d : Nat) : ∀ A, (e465 N d).lp (lid (loopAt Tryz.f465 0)) = some A → LoopOk (e465 N d) N (loopAt Tryz.f465 0) A :=
  loopOk_of (A := ⟨⟨.normal, [0, 1, 2, 4], [.one .ref, .one (.int .i64), .one (.int .i64), .one .ref], [], []⟩, [⟨.ret, [], [], [], []⟩], L465_0 N (F465 N d)⟩) (by kernel_rfl) (fun _ => rfl) (fun _ _ => by kernel_rfl)
theorem fine465 (N d : Nat) : Fine (e465 N d) N 465 Tryz.f465 ks465 rs465 (F465 N (d + 1)) :=
  ⟨Tryz.func465, by kernel_rfl, by kernel_rfl, by kernel_rfl, loops_of ⟨l465_0 N d, trivial⟩, by kernel_rfl, by kernel_rfl, fun _ => by kernel_rfl⟩
theorem gd465 (N : Nat) : ∀ d, CalOk Tryz.prog 465 (.full (mkFun ks465 rs465 (F465 N d)))
  | 0 => fun vs h s he => by obtain ⟨t, _, he⟩ := Option.bind_eq_some_iff.1 he; cases he
  | d + 1 => mkFun_good (fine465 N d) (good_of ⟨gdg536 N, trivial⟩)
theorem good465 (N d : Nat) : Go.L.Good (e465 N d) := good_of ⟨gdg536 N, trivial⟩

/-! ### 379: timer.entry] -/
def F379 (N : Nat) : V × V × H → Option (H)
 | (a0, a1, h) =>
 (slen a0).bind fun n1 =>
 (F382 100 ((IntKind.u64.wrap n1), [])).bind fun (x2, _) =>
 (F465 N N (a0, 0, n1, x2, a1, h)).bind fun h3 =>
 some h3
abbrev ks379 : List SK := [.one .ref, .one .ref]
abbrev rs379 : List SK := []
def e379 (N : Nat) : Env := ⟨Tryz.prog, 14, inTab [], inTab [], natTab [], inTab [], calTab [(382, .pure (mkP ks382 rs382 (F382 100))), (465, .full (mkFun ks465 rs465 (F465 N N)))], altTab [], loopTab [], natTab [], inTab []⟩
theorem fine379 (N : Nat) : Fine (e379 N) N 379 Tryz.f379 ks379 rs379 (F379 N) :=
  ⟨Tryz.func379, by kernel_rfl, by kernel_rfl, by kernel_rfl, loops_of trivial, by kernel_rfl, by kernel_rfl, fun _ => by kernel_rfl⟩
theorem good379 (N : Nat) : Go.L.Good (e379 N) := good_of ⟨gd382, ⟨gd465 N N, trivial⟩⟩
theorem gd379 (N : Nat) : CalOk Tryz.prog 379 (.full (mkFun ks379 rs379 (F379 N))) := mkFun_good (fine379 N) (good379 N)

/-! ### 296: timer.Wheel).all -/
def F296 (N : Nat) : V × H → Option (V × H)
 | (a0, h) =>
 (some (h ++ [O.cells 0 [.nils]]) : Option H).bind fun h1 =>
 (F377 N (a0, (.fn 378 [(.ptr (h).length 0 0)]), h1)).bind fun h2 =>
 ((rd h2 (.ptr (h).length 0 0) 0)).bind fun x3 =>
 (F379 N (x3, (.fn 380 []), h2)).bind fun h4 =>
 ((rd h4 (.ptr (h).length 0 0) 0)).bind fun x5 =>
 some (x5, h4)
abbrev ks296 : List SK := [.one .ref]
abbrev rs296 : List SK := [.one .ref]
def e296 (N : Nat) : Env := ⟨Tryz.prog, 10, inTab [], inTab [], natTab [], inTab [], calTab [(377, .full (mkFun ks377 rs377 (F377 N))), (379, .full (mkFun ks379 rs379 (F379 N)))], altTab [], loopTab [], natTab [], inTab []⟩
theorem fine296 (N : Nat) : Fine (e296 N) N 296 Tryz.f296 ks296 rs296 (F296 N) :=
  ⟨Tryz.func296, by kernel_rfl, by kernel_rfl, by kernel_rfl, loops_of trivial, by kernel_rfl, by kernel_rfl, fun _ => by kernel_rfl⟩
theorem good296 (N : Nat) : Go.L.Good (e296 N) := good_of ⟨gd377 N, ⟨gd379 N, trivial⟩⟩
theorem gd296 (N : Nat) : CalOk Tryz.prog 296 (.full (mkFun ks296 rs296 (F296 N))) := mkFun_good (fine296 N) (good296 N)
theorem gl296 (N : Nat) : CalOk Tryz.prog 296 (.full (mkFun ks296 rs296 (locF false ks296 rs296 (F296 N)))) := loc_full (gd296 N)

/-! ### 295: timer.told -/
def L295_0 (N : Nat) : Nat → V × Int × Int × H → Option (V × H)
 | 0, _ => none
 | n + 1, (x6, x7, x8, h9) =>
 (if (decide (x8 < x7)) = true then (
 none)
 else (
 some (x6, h9)))
def F295 (N : Nat) : V × H → Option (V × H)
 | (a0, h) =>
 (slen a0).bind fun n1 =>
 (L295_0 N N (.nils, n1, 0, h)).bind fun (x10, h11) =>
 some (x10, h11)
abbrev ks295 : List SK := [.one .ref]
abbrev rs295 : List SK := [.one .ref]
def e295 (N : Nat) : Env := ⟨Tryz.prog, 19, inTab [5, 15], inTab [], natTab [(5, 5), (13, 5)], inTab [], calTab [], altTab [], loopTab [(3, ⟨⟨.normal, [3, 7, 8], [.one .ref, .one (.int .i64), .one (.int .i64)], [], []⟩, [⟨(.exit 0), [3], [.one .ref], [], []⟩], L295_0 N⟩)], natTab [], inTab [4, 5, 6]⟩
theorem l295_0 (N : Nat) : ∀ A, (e295 N).lp (lid (loopAt Tryz.f295 0)) = some A → LoopOk (e295 N) N (loopAt Tryz.f295 0) A :=
  loopOk_of (A := ⟨⟨.normal, [3, 7, 8], [.one .ref, .one (.int .i64), .one (.int .i64)], [], []⟩, [⟨(.exit 0), [3], [.one .ref], [], []⟩], L295_0 N⟩) (by kernel_rfl) (fun _ => rfl) (fun _ _ => by kernel_rfl)
theorem fine295 (N : Nat) : Fine (e295 N) N 295 Tryz.f295 ks295 rs295 (F295 N) :=
  ⟨Tryz.func295, by kernel_rfl, by kernel_rfl, by kernel_rfl, loops_of ⟨l295_0 N, trivial⟩, by kernel_rfl, by kernel_rfl, fun _ => by kernel_rfl⟩
theorem good295 (N : Nat) : Go.L.Good (e295 N) := good_of trivial
theorem gd295 (N : Nat) : CalOk Tryz.prog 295 (.ro (mkFun ks295 rs295 (F295 N))) := mkFun_ro (fine295 N) (good295 N) (by kernel_rfl)

/-! ### 287: table.Table).Live -/
def L287_0 (N : Nat) : Nat → V × V × V × Int × Int × H → Option (V × H)
 | 0, _ => none
 | n + 1, (x24, x25, x26, x27, x28, h29) =>
 (if (decide (x28 < x27)) = true then (
 (sidx x26 x28 3).bind fun q30 =>
 (L.asInt .i64 (rd h29 q30 0)).bind fun x31 =>
 (L.asBool (rd h29 q30 1)).bind fun x32 =>
 (L.asStr (rd h29 q30 2)).bind fun x33 =>
 ((if x32 = true then (
 (F373 N (x24, x28, h29)).bind fun (x34, x35, _) =>
 (happ h29 x25 2 1 [(.int .i64 x34), (.int .i64 x35)]).bind fun (v36, h37) =>
 some (x24, v36, x26, x27, x28, h37))
 else (
 some (x24, x25, x26, x27, x28, h29))) : Option (V × V × V × Int × Int × H)).bind fun (x38, x39, x40, x41, x42, h43) =>
 L287_0 N n (x38, x39, x40, x41, (IntKind.i64.wrap (x42 + 1)), h43))
 else (
 some (x25, h29)))
def F287 (N : Nat) : V × H → Option (V × H)
 | (a0, h) =>
 (F286 N (a0, h)).bind fun (x1, _) =>
 (if (!x1) = true then (
 none)
 else (
 (nck a0).bind fun _ =>
 ((rd h (padd a0 0) 0)).bind fun x2 =>
 (slen x2).bind fun n3 =>
 (L287_0 N N (a0, .nils, x2, n3, 0, h)).bind fun (x44, h45) =>
 some (x44, h45)))
abbrev ks287 : List SK := [.one .ref]
abbrev rs287 : List SK := [.one .ref]
def e287 (N : Nat) : Env := ⟨Tryz.prog, 29, inTab [5, 25], inTab [], natTab [(5, 5), (19, 5)], inTab [], calTab [(286, .ro (mkFun ks286 rs286 (F286 N))), (373, .ro (mkFun ks373 rs373 (F373 N)))], altTab [(524308, [⟨.normal, [0, 3, 12, 13, 14], [.one .ref, .one .ref, .one .ref, .one (.int .i64), .one (.int .i64)], [], []⟩])], loopTab [(5, ⟨⟨.normal, [0, 3, 12, 13, 14], [.one .ref, .one .ref, .one .ref, .one (.int .i64), .one (.int .i64)], [], []⟩, [⟨(.exit 0), [3], [.one .ref], [], []⟩], L287_0 N⟩)], natTab [], inTab [2]⟩
theorem l287_0 (N : Nat) : ∀ A, (e287 N).lp (lid (loopAt Tryz.f287 0)) = some A → LoopOk (e287 N) N (loopAt Tryz.f287 0) A :=
  loopOk_of (A := ⟨⟨.normal, [0, 3, 12, 13, 14], [.one .ref, .one .ref, .one .ref, .one (.int .i64), .one (.int .i64)], [], []⟩, [⟨(.exit 0), [3], [.one .ref], [], []⟩], L287_0 N⟩) (by kernel_rfl) (fun _ => rfl) (fun _ _ => by kernel_rfl)
theorem fine287 (N : Nat) : Fine (e287 N) N 287 Tryz.f287 ks287 rs287 (F287 N) :=
  ⟨Tryz.func287, by kernel_rfl, by kernel_rfl, by kernel_rfl, loops_of ⟨l287_0 N, trivial⟩, by kernel_rfl, by kernel_rfl, fun _ => by kernel_rfl⟩
theorem good287 (N : Nat) : Go.L.Good (e287 N) := good_of ⟨gd286 N, ⟨gd373 N, trivial⟩⟩
theorem gd287 (N : Nat) : CalOk Tryz.prog 287 (.full (mkFun ks287 rs287 (F287 N))) := mkFun_good (fine287 N) (good287 N)
theorem gl287 (N : Nat) : CalOk Tryz.prog 287 (.full (mkFun ks287 rs287 (locF false ks287 rs287 (F287 N)))) := loc_full (gd287 N)

/-! ### 568: node.actor] -/
def L568_0 (N : Nat) : Nat → Int × Int × H → Option (H)
 | 0, _ => none
 | n + 1, (x4, x5, h6) =>
 (if (decide (x5 < x4)) = true then (
 none)
 else (
 some h6))
def F568 (N : Nat) : V × Int × Int × V × H → Option (H)
 | (a0, a1, a2, a3, h) =>
 (L568_0 N N (a2, (IntKind.i64.wrap (a1 + 1)), h)).bind fun h7 =>
 some h7
abbrev ks568 : List SK := [.one .ref, .one (.int .i64), .one (.int .i64), .one .ref]
abbrev rs568 : List SK := []
def e568 (N : Nat) : Env := ⟨Tryz.prog, 53, inTab [], inTab [], natTab [], inTab [], calTab [], altTab [], loopTab [(1, ⟨⟨.normal, [2, 8], [.one (.int .i64), .one (.int .i64)], [], []⟩, [⟨(.exit 0), [], [], [], []⟩], L568_0 N⟩)], natTab [], inTab [2, 3, 4, 5, 6]⟩
theorem l568_0 (N : Nat) : ∀ A, (e568 N).lp (lid (loopAt Tryz.f568 0)) = some A → LoopOk (e568 N) N (loopAt Tryz.f568 0) A :=
  loopOk_of (A := ⟨⟨.normal, [2, 8], [.one (.int .i64), .one (.int .i64)], [], []⟩, [⟨(.exit 0), [], [], [], []⟩], L568_0 N⟩) (by kernel_rfl) (fun _ => rfl) (fun _ _ => by kernel_rfl)
theorem lv568_1 (N : Nat) : ∀ A, (e568 N).lp (lid (loopAt Tryz.f568 1)) = some A → LoopOk (e568 N) N (loopAt Tryz.f568 1) A := fun A h => by
 rw [show (e568 N).lp (lid (loopAt Tryz.f568 1)) = none by kernel_rfl] at h; cases h
theorem fine568 (N : Nat) : Fine (e568 N) N 568 Tryz.f568 ks568 rs568 (F568 N) :=
  ⟨Tryz.func568, by kernel_rfl, by kernel_rfl, by kernel_rfl, loops_of ⟨l568_0 N, ⟨lv568_1 N, trivial⟩⟩, by kernel_rfl, by kernel_rfl, fun _ => by kernel_rfl⟩
theorem good568 (N : Nat) : Go.L.Good (e568 N) := good_of trivial
theorem gdg568 (N : Nat) : CalOk Tryz.prog 568 (.gro (mkFun ks568 rs568 (F568 N))) := mkFun_groC (fine568 N) (good568 N) (by kernel_rfl)

/-! ### 495: node.actor] -/
def L495_0 (N : Nat) : Nat → V × Int × V × Int × Int × Int × H → Option (V × Int × V × Int × Int × H)
 | 0, _ => none
 | n + 1, (x8, x9, x10, x11, x12, x13, h14) =>
 (if (decide (x13 ≤ x9)) = true then (
 none)
 else (
 some (x8, x9, x10, x11, x12, h14)))
def L495_1 (N : Nat) : Nat → Int × Int × H → Option (H)
 | 0, _ => none
 | n + 1, (x25, x26, h27) =>
 (if (decide (x26 < x25)) = true then (
 none)
 else (
 some h27))
def F495 (N : Nat) : V × Int × V × H → Option (H)
 | (a0, a1, a2, h) =>
 (L495_0 N N (a0, a1, a2, 20, 0, 20, h)).bind fun (x15, x16, x17, x18, x19, h20) =>
 (F568 N (x15, x19, x16, x17, h20)).bind fun h21 =>
 (L495_1 N N (x16, x18, h21)).bind fun h28 =>
 some h28
abbrev ks495 : List SK := [.one .ref, .one (.int .i64), .one .ref]
abbrev rs495 : List SK := []
def e495 (N : Nat) : Env := ⟨Tryz.prog, 63, inTab [], inTab [], natTab [], inTab [], calTab [(568, .gro (mkFun ks568 rs568 (F568 N)))], altTab [], loopTab [(2, ⟨⟨.normal, [0, 1, 2, 6, 7, 8], [.one .ref, .one (.int .i64), .one .ref, .one (.int .i64), .one (.int .i64), .one (.int .i64)], [], []⟩, [⟨(.exit 0), [0, 1, 2, 6, 7], [.one .ref, .one (.int .i64), .one .ref, .one (.int .i64), .one (.int .i64)], [], []⟩], L495_0 N⟩), (7, ⟨⟨.normal, [1, 6], [.one (.int .i64), .one (.int .i64)], [], []⟩, [⟨(.exit 2), [], [], [], []⟩], L495_1 N⟩)], natTab [], inTab [3, 4, 5, 8, 9, 10, 11, 12, 13, 14, 15, 16]⟩
theorem l495_0 (N : Nat) : ∀ A, (e495 N).lp (lid (loopAt Tryz.f495 0)) = some A → LoopOk (e495 N) N (loopAt Tryz.f495 0) A :=
  loopOk_of (A := ⟨⟨.normal, [0, 1, 2, 6, 7, 8], [.one .ref, .one (.int .i64), .one .ref, .one (.int .i64), .one (.int .i64), .one (.int .i64)], [], []⟩, [⟨(.exit 0), [0, 1, 2, 6, 7], [.one .ref, .one (.int .i64), .one .ref, .one (.int .i64), .one (.int .i64)], [], []⟩], L495_0 N⟩) (by kernel_rfl) (fun _ => rfl) (fun _ _ => by kernel_rfl)
theorem l495_1 (N : Nat) : ∀ A, (e495 N).lp (lid (loopAt Tryz.f495 1)) = some A → LoopOk (e495 N) N (loopAt Tryz.f495 1) A :=
  loopOk_of (A := ⟨⟨.normal, [1, 6], [.one (.int .i64), .one (.int .i64)], [], []⟩, [⟨(.exit 2), [], [], [], []⟩], L495_1 N⟩) (by kernel_rfl) (fun _ => rfl) (fun _ _ => by kernel_rfl)
theorem lv495_2 (N : Nat) : ∀ A, (e495 N).lp (lid (loopAt Tryz.f495 2)) = some A → LoopOk (e495 N) N (loopAt Tryz.f495 2) A := fun A h => by
 rw [show (e495 N).lp (lid (loopAt Tryz.f495 2)) = none by kernel_rfl] at h; cases h
theorem fine495 (N : Nat) : Fine (e495 N) N 495 Tryz.f495 ks495 rs495 (F495 N) :=
  ⟨Tryz.func495, by kernel_rfl, by kernel_rfl, by kernel_rfl, loops_of ⟨l495_0 N, ⟨l495_1 N, ⟨lv495_2 N, trivial⟩⟩⟩, by kernel_rfl, by kernel_rfl, fun _ => by kernel_rfl⟩
theorem good495 (N : Nat) : Go.L.Good (e495 N) := good_of ⟨gdg568 N, trivial⟩
theorem gdg495 (N : Nat) : CalOk Tryz.prog 495 (.gro (mkFun ks495 rs495 (F495 N))) := mkFun_groC (fine495 N) (good495 N) (by kernel_rfl)

/-! ### 424: node.actor] -/
def F424 (N : Nat) : V × V × H → Option (H)
 | (a0, a1, h) =>
 (slen a0).bind fun n1 =>
 (F495 N (a0, n1, a1, h)).bind fun h2 =>
 some h2
abbrev ks424 : List SK := [.one .ref, .one .ref]
abbrev rs424 : List SK := []
def e424 (N : Nat) : Env := ⟨Tryz.prog, 9, inTab [], inTab [], natTab [], inTab [], calTab [(495, .gro (mkFun ks495 rs495 (F495 N)))], altTab [], loopTab [], natTab [], inTab []⟩
theorem fine424 (N : Nat) : Fine (e424 N) N 424 Tryz.f424 ks424 rs424 (F424 N) :=
  ⟨Tryz.func424, by kernel_rfl, by kernel_rfl, by kernel_rfl, loops_of trivial, by kernel_rfl, by kernel_rfl, fun _ => by kernel_rfl⟩
theorem good424 (N : Nat) : Go.L.Good (e424 N) := good_of ⟨gdg495 N, trivial⟩
theorem gdg424 (N : Nat) : CalOk Tryz.prog 424 (.gro (mkFun ks424 rs424 (F424 N))) := mkFun_groC (fine424 N) (good424 N) (by kernel_rfl)

/-! ### 426: api.Entry]).Len -/
def F426 (N : Nat) : V × H → Option (Int × H)
 | (a0, h) =>
 (F375 N (a0, h)).bind fun (x1, _) =>
 (if (!x1) = true then (
 none)
 else (
 (nck a0).bind fun _ =>
 ((rd h (padd a0 1) 0)).bind fun x2 =>
 (slen x2).bind fun n3 =>
 some (n3, h)))
abbrev ks426 : List SK := [.one .ref]
abbrev rs426 : List SK := [.one (.int .i64)]
def e426 (N : Nat) : Env := ⟨Tryz.prog, 11, inTab [], inTab [], natTab [], inTab [], calTab [(375, .ro (mkFun ks375 rs375 (F375 N)))], altTab [], loopTab [], natTab [], inTab [2]⟩
theorem fine426 (N : Nat) : Fine (e426 N) N 426 Tryz.f426 ks426 rs426 (F426 N) :=
  ⟨Tryz.func426, by kernel_rfl, by kernel_rfl, by kernel_rfl, loops_of trivial, by kernel_rfl, by kernel_rfl, fun _ => by kernel_rfl⟩
theorem good426 (N : Nat) : Go.L.Good (e426 N) := good_of ⟨gd375 N, trivial⟩
theorem gd426 (N : Nat) : CalOk Tryz.prog 426 (.ro (mkFun ks426 rs426 (F426 N))) := mkFun_ro (fine426 N) (good426 N) (by kernel_rfl)

/-! ### 360: core.Core).Empty -/
def L360_0 (N : Nat) : Nat → V × Int × H → Option ((H) ⊕ (Bool × H))
 | 0, _ => none
 | n + 1, (x10, x11, h12) =>
 (if (decide (x11 < 3)) = true then (
 (F291 N (x10, h12)).bind fun (x13, _) =>
 (if x13 = true then (
 (nck x10).bind fun _ =>
 (aidx (padd x10 2) x11 3 1).bind fun q16 =>
 ((rd h12 (padd q16 0) 0)).bind fun x17 =>
 (F426 N (x17, h12)).bind fun (x18, _) =>
 some ((decide (x18 > 0)), h12))
 else (
 some (false, h12))).bind fun (b14, h15) =>
 (if b14 = true then (
 some (.inr (false, h15)))
 else (
 none)))
 else (
 some (.inl h12)))
def F360 (N : Nat) : V × H → Option (Bool × H)
 | (a0, h) =>
 (L360_0 N N (a0, 0, h)).bind fun o19 => match o19 with
 | .inl h20 => (
 none)
 | .inr (x21, h22) => (
 some (x21, h22))
abbrev ks360 : List SK := [.one .ref]
abbrev rs360 : List SK := [.one .bool]
def e360 (N : Nat) : Env := ⟨Tryz.prog, 21, inTab [], inTab [], natTab [], inTab [], calTab [(291, .ro (mkFun ks291 rs291 (F291 N))), (426, .ro (mkFun ks426 rs426 (F426 N)))], altTab [], loopTab [(2, ⟨⟨.normal, [0, 4], [.one .ref, .one (.int .i64)], [], []⟩, [⟨(.exit 0), [], [], [], []⟩, ⟨.ret, [2], [.one .bool], [], []⟩], L360_0 N⟩)], natTab [], inTab [6, 7]⟩
theorem l360_0 (N : Nat) : ∀ A, (e360 N).lp (lid (loopAt Tryz.f360 0)) = some A → LoopOk (e360 N) N (loopAt Tryz.f360 0) A :=
  loopOk_of (A := ⟨⟨.normal, [0, 4], [.one .ref, .one (.int .i64)], [], []⟩, [⟨(.exit 0), [], [], [], []⟩, ⟨.ret, [2], [.one .bool], [], []⟩], L360_0 N⟩) (by kernel_rfl) (fun _ => rfl) (fun _ _ => by kernel_rfl)
theorem fine360 (N : Nat) : Fine (e360 N) N 360 Tryz.f360 ks360 rs360 (F360 N) :=
  ⟨Tryz.func360, by kernel_rfl, by kernel_rfl, by kernel_rfl, loops_of ⟨l360_0 N, trivial⟩, by kernel_rfl, by kernel_rfl, fun _ => by kernel_rfl⟩
theorem good360 (N : Nat) : Go.L.Good (e360 N) := good_of ⟨gd291 N, ⟨gd426 N, trivial⟩⟩
theorem gd360 (N : Nat) : CalOk Tryz.prog 360 (.ro (mkFun ks360 rs360 (F360 N))) := mkFun_ro (fine360 N) (good360 N) (by kernel_rfl)

/-! ### 430: wheel.Next -/
def L430_0 (N : Nat) : Nat → V × Int × Int × List V × H → Option ((H) ⊕ (Int × Int × Int × H))
 | 0, _ => none
 | n + 1, (x14, x15, x16, cs17, h18) =>
 (if (decide (x16 < 3)) = true then (
 (sidx x14 x15 1).bind fun q19 =>
 (L.asInt .i64 (rd h18 q19 0)).bind fun x20 =>
 (if 0 ≤ (Int.tmod (IntKind.i64.wrap (x20 + x16)) 3) then (if (Int.tmod (IntKind.i64.wrap (x20 + x16)) 3) < 3 then (
 (L.asBool cs17[((0 + Int.toNat (Int.tmod (IntKind.i64.wrap (x20 + x16)) 3) * 1) + 0)]?).bind fun x21 =>
 (if x21 = true then (
 (slen x14).bind fun n22 =>
 (if n22 = 0 then none else (
 some (.inr ((Int.tmod (IntKind.i64.wrap (x20 + x16)) 3), (Int.tmod (IntKind.i64.wrap (x15 + 1)) n22), 0, h18)))))
 else (
 L430_0 N n (x14, x15, (IntKind.i64.wrap (x16 + 1)), cs17, h18)))) else none) else none))
 else (
 some (.inl h18)))
def F430 (N : Nat) : V × Int × List V × H → Option (Int × Int × Int × H)
 | (a0, a1, a2, h) =>
 (if (a2).length = 3 then (
 (F139 N (a0, h)).bind fun (x1, _) =>
 (if (x1 != 0) = true then (
 none)
 else (
 (if (decide (a1 < 0)) = true then (
 some (true, h))
 else (
 (slen a0).bind fun n4 =>
 some ((decide (a1 ≥ n4)), h))).bind fun (b2, h3) =>
 (if b2 = true then (
 none)
 else (
 (L430_0 N N (a0, a1, 0, a2, h3)).bind fun o23 => match o23 with
 | .inl h24 => (
 none)
 | .inr (x25, x26, x27, h28) => (
 some (x25, x26, x27, h28))))))) else none)
abbrev ks430 : List SK := [.one .ref, .one (.int .i64), .blk]
abbrev rs430 : List SK := [.one (.int .i64), .one (.int .i64), .one (.int .i64)]
def e430 (N : Nat) : Env := ⟨Tryz.prog, 44, inTab [5], inTab [], natTab [(5, 5), (35, 5)], inTab [], calTab [(139, .ro (mkFun ks139 rs139 (F139 N)))], altTab [], loopTab [(6, ⟨⟨.normal, [0, 1, 5, 24], [.one .ref, .one (.int .i64), .lp 5 0, .one (.int .i64)], [5], [.blk]⟩, [⟨(.exit 1), [], [], [], []⟩, ⟨.ret, [6, 7, 8], [.one (.int .i64), .one (.int .i64), .one (.int .i64)], [], []⟩], L430_0 N⟩)], natTab [], inTab [2, 4, 12]⟩
theorem l430_0 (N : Nat) : ∀ A, (e430 N).lp (lid (loopAt Tryz.f430 0)) = some A → LoopOk (e430 N) N (loopAt Tryz.f430 0) A :=
  loopOk_of (A := ⟨⟨.normal, [0, 1, 5, 24], [.one .ref, .one (.int .i64), .lp 5 0, .one (.int .i64)], [5], [.blk]⟩, [⟨(.exit 1), [], [], [], []⟩, ⟨.ret, [6, 7, 8], [.one (.int .i64), .one (.int .i64), .one (.int .i64)], [], []⟩], L430_0 N⟩) (by kernel_rfl) (fun _ => rfl) (fun _ _ => by kernel_rfl)
theorem fine430 (N : Nat) : Fine (e430 N) N 430 Tryz.f430 ks430 rs430 (F430 N) :=
  ⟨Tryz.func430, by kernel_rfl, by kernel_rfl, by kernel_rfl, loops_of ⟨l430_0 N, trivial⟩, by kernel_rfl, by kernel_rfl, fun _ => by kernel_rfl⟩
theorem good430 (N : Nat) : Go.L.Good (e430 N) := good_of ⟨gd139 N, trivial⟩
theorem gd430 (N : Nat) : CalOk Tryz.prog 430 (.ro (mkFun ks430 rs430 (F430 N))) := mkFun_ro (fine430 N) (good430 N) (by kernel_rfl)

/-! ### 446: api.Entry]).At -/
def F446 (N : Nat) : V × Int × H → Option (Int × Int × Bool × Int × H)
 | (a0, a1, h) =>
 (F375 N (a0, h)).bind fun (x1, _) =>
 (if (!x1) = true then (
 none)
 else (
 (if (decide (a1 < 0)) = true then (
 some (true, h))
 else (
 (nck a0).bind fun _ =>
 ((rd h (padd a0 1) 0)).bind fun x4 =>
 (slen x4).bind fun n5 =>
 some ((decide (a1 ≥ n5)), h))).bind fun (b2, h3) =>
 (if b2 = true then (
 none)
 else (
 (nck a0).bind fun _ =>
 ((rd h3 (padd a0 1) 0)).bind fun x6 =>
 (sidx x6 a1 3).bind fun q7 =>
 (L.asInt .i64 (rd h3 q7 0)).bind fun x8 =>
 (L.asInt .i64 (rd h3 q7 1)).bind fun x9 =>
 (L.asBool (rd h3 q7 2)).bind fun x10 =>
 some (x8, x9, x10, 0, h3)))))
abbrev ks446 : List SK := [.one .ref, .one (.int .i64)]
abbrev rs446 : List SK := [.agg [(.int .i64), (.int .i64), .bool], .one (.int .i64)]
def e446 (N : Nat) : Env := ⟨Tryz.prog, 29, inTab [4], inTab [], natTab [(4, 4)], inTab [], calTab [(375, .ro (mkFun ks375 rs375 (F375 N)))], altTab [], loopTab [], natTab [], inTab [2, 4]⟩
theorem fine446 (N : Nat) : Fine (e446 N) N 446 Tryz.f446 ks446 rs446 (F446 N) :=
  ⟨Tryz.func446, by kernel_rfl, by kernel_rfl, by kernel_rfl, loops_of trivial, by kernel_rfl, by kernel_rfl, fun _ => by kernel_rfl⟩
theorem good446 (N : Nat) : Go.L.Good (e446 N) := good_of ⟨gd375 N, trivial⟩
theorem gd446 (N : Nat) : CalOk Tryz.prog 446 (.ro (mkFun ks446 rs446 (F446 N))) := mkFun_ro (fine446 N) (good446 N) (by kernel_rfl)

/-! ### 447: api.Entry] -/
def F447 (N : Nat) : V × Int × H → Option (V × H)
 | (a0, a1, h) =>
 (if (a1 == 0) = true then (
 (slen a0).bind fun n1 =>
 (ssl 3 a0 1 n1).bind fun v2 =>
 some (v2, h))
 else (
 none))
abbrev ks447 : List SK := [.one .ref, .one (.int .i64)]
abbrev rs447 : List SK := [.one .ref]
def e447 (N : Nat) : Env := ⟨Tryz.prog, 18, inTab [], inTab [], natTab [], inTab [], calTab [], altTab [], loopTab [], natTab [], inTab [3]⟩
theorem fine447 (N : Nat) : Fine (e447 N) N 447 Tryz.f447 ks447 rs447 (F447 N) :=
  ⟨Tryz.func447, by kernel_rfl, by kernel_rfl, by kernel_rfl, loops_of trivial, by kernel_rfl, by kernel_rfl, fun _ => by kernel_rfl⟩
theorem good447 (N : Nat) : Go.L.Good (e447 N) := good_of trivial
theorem gd447 (N : Nat) : CalOk Tryz.prog 447 (.ro (mkFun ks447 rs447 (F447 N))) := mkFun_ro (fine447 N) (good447 N) (by kernel_rfl)

/-! ### 367: api.Entry]).Take -/
def F367 (N : Nat) : V × Int × H → Option (Int × Int × Bool × Int × H)
 | (a0, a1, h) =>
 (F446 N (a0, a1, h)).bind fun (x1, x2, x3, x4, _) =>
 (if (x4 != 0) = true then (
 none)
 else (
 (nck a0).bind fun _ =>
 ((rd h (padd a0 1) 0)).bind fun x5 =>
 (F447 N (x5, a1, h)).bind fun (x6, _) =>
 (nck a0).bind fun _ =>
 (ck1 x6).bind fun _ =>
 (wr h (padd a0 1) [x6]).bind fun h7 =>
 some (x1, x2, x3, 0, h7)))
abbrev ks367 : List SK := [.one .ref, .one (.int .i64)]
abbrev rs367 : List SK := [.agg [(.int .i64), (.int .i64), .bool], .one (.int .i64)]
def e367 (N : Nat) : Env := ⟨Tryz.prog, 26, inTab [4], inTab [], natTab [(4, 4)], inTab [], calTab [(446, .ro (mkFun ks446 rs446 (F446 N))), (447, .ro (mkFun ks447 rs447 (F447 N)))], altTab [], loopTab [], natTab [], inTab [3]⟩
theorem fine367 (N : Nat) : Fine (e367 N) N 367 Tryz.f367 ks367 rs367 (F367 N) :=
  ⟨Tryz.func367, by kernel_rfl, by kernel_rfl, by kernel_rfl, loops_of trivial, by kernel_rfl, by kernel_rfl, fun _ => by kernel_rfl⟩
theorem good367 (N : Nat) : Go.L.Good (e367 N) := good_of ⟨gd446 N, ⟨gd447 N, trivial⟩⟩
theorem gd367 (N : Nat) : CalOk Tryz.prog 367 (.full (mkFun ks367 rs367 (F367 N))) := mkFun_good (fine367 N) (good367 N)

/-! ### 431: api.Entry]).Pop -/
def F431 (N : Nat) : V × H → Option (Int × Int × Bool × Int × H)
 | (a0, h) =>
 (F367 N (a0, 0, h)).bind fun (x1, x2, x3, x4, h5) =>
 some (x1, x2, x3, x4, h5)
abbrev ks431 : List SK := [.one .ref]
abbrev rs431 : List SK := [.agg [(.int .i64), (.int .i64), .bool], .one (.int .i64)]
def e431 (N : Nat) : Env := ⟨Tryz.prog, 8, inTab [2], inTab [], natTab [(2, 2)], inTab [], calTab [(367, .full (mkFun ks367 rs367 (F367 N)))], altTab [], loopTab [], natTab [], inTab []⟩
theorem fine431 (N : Nat) : Fine (e431 N) N 431 Tryz.f431 ks431 rs431 (F431 N) :=
  ⟨Tryz.func431, by kernel_rfl, by kernel_rfl, by kernel_rfl, loops_of trivial, by kernel_rfl, by kernel_rfl, fun _ => by kernel_rfl⟩
theorem good431 (N : Nat) : Go.L.Good (e431 N) := good_of ⟨gd367 N, trivial⟩
theorem gd431 (N : Nat) : CalOk Tryz.prog 431 (.full (mkFun ks431 rs431 (F431 N))) := mkFun_good (fine431 N) (good431 N)

/-! ### 362: core.Core).Pick -/
def L362_0 (N : Nat) : Nat → V × Int × Int × Int × Bool × List V × H → Option (V × Int × Int × Bool × List V × H)
 | 0, _ => none
 | n + 1, (x12, x13, x14, x15, x16, cs17, h18) =>
 (if (decide (x13 < 3)) = true then (
 (nck x12).bind fun _ =>
 (aidx (padd x12 2) x13 3 1).bind fun q19 =>
 ((rd h18 (padd q19 0) 0)).bind fun x20 =>
 (F426 N (x20, h18)).bind fun (x21, _) =>
 (if 0 ≤ x13 then (if x13 < 3 then (
 (if (0 + Int.toNat x13 * 1) + 1 ≤ (cs17).length then (
 L362_0 N n (x12, (IntKind.i64.wrap (x13 + 1)), x14, x15, x16, (splice cs17 (0 + Int.toNat x13 * 1) [(.bool (decide (x21 > 0)))]), h18)) else none)) else none) else none))
 else (
 some (x12, x14, x15, x16, cs17, h18)))
def F362 (N : Nat) : V × H → Option (Int × Int × Bool × Int × Int × H)
 | (a0, h) =>
 (F291 N (a0, h)).bind fun (x1, _) =>
 (if (!x1) = true then (
 none)
 else (
 (L362_0 N N (a0, 0, 0, 0, false, [(.bool false), (.bool false), (.bool false)], h)).bind fun (x22, x23, x24, x25, cs26, h27) =>
 (nck x22).bind fun _ =>
 ((rd h27 (padd x22 0) 0)).bind fun x28 =>
 (nck x22).bind fun _ =>
 (L.asInt .i64 (rd h27 (padd x22 1) 0)).bind fun x29 =>
 ((if 0 + 3 ≤ (cs26).length then some (((cs26).drop 0).take 3) else none) : Option (List V)).bind fun cs30 =>
 (F430 N (x28, x29, cs30, h27)).bind fun (x31, x32, x33, _) =>
 (if (x33 != 0) = true then (
 none)
 else (
 (nck x22).bind fun _ =>
 (wr h27 (padd x22 1) [(.int .i64 x32)]).bind fun h34 =>
 (nck x22).bind fun _ =>
 (aidx (padd x22 2) x31 3 1).bind fun q35 =>
 ((rd h34 (padd q35 0) 0)).bind fun x36 =>
 (F431 N (x36, h34)).bind fun (x37, x38, x39, x40, h41) =>
 some (x37, x38, x39, x31, x40, h41)))))
abbrev ks362 : List SK := [.one .ref]
abbrev rs362 : List SK := [.agg [(.int .i64), (.int .i64), .bool], .one (.int .i64), .one (.int .i64)]
def e362 (N : Nat) : Env := ⟨Tryz.prog, 64, inTab [2, 5], inTab [], natTab [(2, 2), (5, 5), (26, 5)], inTab [], calTab [(291, .ro (mkFun ks291 rs291 (F291 N))), (426, .ro (mkFun ks426 rs426 (F426 N))), (430, .ro (mkFun ks430 rs430 (F430 N))), (431, .full (mkFun ks431 rs431 (F431 N)))], altTab [], loopTab [(5, ⟨⟨.normal, [0, 2, 5, 13], [.one .ref, .lp 2 0, .lp 5 0, .one (.int .i64)], [2, 5], [.cells [(.int .i64), (.int .i64), .bool], .blk]⟩, [⟨(.exit 0), [0, 2, 5], [.one .ref, .lp 2 0, .lp 5 0], [2, 5], [.cells [(.int .i64), (.int .i64), .bool], .blk]⟩], L362_0 N⟩)], natTab [], inTab [2, 11]⟩
theorem l362_0 (N : Nat) : ∀ A, (e362 N).lp (lid (loopAt Tryz.f362 0)) = some A → LoopOk (e362 N) N (loopAt Tryz.f362 0) A :=
  loopOk_of (A := ⟨⟨.normal, [0, 2, 5, 13], [.one .ref, .lp 2 0, .lp 5 0, .one (.int .i64)], [2, 5], [.cells [(.int .i64), (.int .i64), .bool], .blk]⟩, [⟨(.exit 0), [0, 2, 5], [.one .ref, .lp 2 0, .lp 5 0], [2, 5], [.cells [(.int .i64), (.int .i64), .bool], .blk]⟩], L362_0 N⟩) (by kernel_rfl) (fun _ => rfl) (fun _ _ => by kernel_rfl)
theorem fine362 (N : Nat) : Fine (e362 N) N 362 Tryz.f362 ks362 rs362 (F362 N) :=
  ⟨Tryz.func362, by kernel_rfl, by kernel_rfl, by kernel_rfl, loops_of ⟨l362_0 N, trivial⟩, by kernel_rfl, by kernel_rfl, fun _ => by kernel_rfl⟩
theorem good362 (N : Nat) : Go.L.Good (e362 N) := good_of ⟨gd291 N, ⟨gd426 N, ⟨gd430 N, ⟨gd431 N, trivial⟩⟩⟩⟩
theorem gd362 (N : Nat) : CalOk Tryz.prog 362 (.full (mkFun ks362 rs362 (F362 N))) := mkFun_good (fine362 N) (good362 N)

/-! ### 268: node.Node).find -/
def F268 (N : Nat) : V × Int × Int × H → Option (V × H)
 | (a0, a1_0, a1_1, h) =>
 (nck a0).bind fun _ =>
 ((rd h (padd a0 6) 0)).bind fun x1 =>
 (hmap h x1).bind fun es2 =>
 (mlook (.int .i64 a1_0) es2).bind fun q3 =>
 ((some (Option.getD q3 .nilp))).bind fun x4 =>
 (if (Option.isSome q3) = true then (
 (nck x4).bind fun _ =>
 (L.asInt .i64 (rd h (padd x4 0) 0)).bind fun x7 =>
 (L.asInt .i64 (rd h (padd x4 0) 1)).bind fun x8 =>
 some (((x7 == a1_0) && ((x8 == a1_1) && true)), h))
 else (
 some (false, h))).bind fun (b5, h6) =>
 (if b5 = true then (
 some (x4, h6))
 else (
 none))
abbrev ks268 : List SK := [.one .ref, .agg [(.int .i64), (.int .i64)]]
abbrev rs268 : List SK := [.one .ref]
def e268 (N : Nat) : Env := ⟨Tryz.prog, 27, inTab [3], inTab [], natTab [(3, 3), (12, 3)], inTab [], calTab [], altTab [], loopTab [], natTab [], inTab [4]⟩
theorem fine268 (N : Nat) : Fine (e268 N) N 268 Tryz.f268 ks268 rs268 (F268 N) :=
  ⟨Tryz.func268, by kernel_rfl, by kernel_rfl, by kernel_rfl, loops_of trivial, by kernel_rfl, by kernel_rfl, fun _ => by kernel_rfl⟩
theorem good268 (N : Nat) : Go.L.Good (e268 N) := good_of trivial
theorem gd268 (N : Nat) : CalOk Tryz.prog 268 (.ro (mkFun ks268 rs268 (F268 N))) := mkFun_ro (fine268 N) (good268 N) (by kernel_rfl)

/-! ### 363: node.Node).world -/
def F363 (N : Nat) : V × V × H → Option (V × H)
 | (a0, a1, h) =>
 (ck1 a1).bind fun _ =>
 (some (h ++ [O.cells 0 [a1]]) : Option H).bind fun h1 =>
 (some (h1 ++ [O.cells 0 [(.int .i64 5), (.fnb 432 [a0]), (.int .i64 2), (.fnb 433 [a0]), (.int .i64 3), (.fnb 433 [a0]), (.int .i64 4), (.fnb 434 [a0]), (.int .i64 6), (.fnb 435 [a0]), (.int .i64 7), (.fnb 436 [a0]), (.int .i64 8), (.fnb 437 [a0]), (.int .i64 11), (.fnb 438 [a0]), (.int .i64 9), (.fnb 439 [a0]), (.int .i64 10), (.fnb 439 [a0]), (.int .i64 12), (.fnb 439 [a0]), (.int .i64 14), (.fnb 440 [a0]), (.int .i64 15), (.fnb 440 [a0]), (.int .i64 13), (.fnb 441 [a0]), (.int .i64 16), (.fnb 441 [a0])]]) : Option H).bind fun h2 =>
 (some (h2 ++ [O.cells 0 [.nils]]) : Option H).bind fun h3 =>
 (ck1 (.sl (h1).length 0 0 15 2 (some 15))).bind fun _ =>
 (wr h3 (.ptr (h2).length 0 0) [(.sl (h1).length 0 0 15 2 (some 15))]).bind fun h4 =>
 some ((.fn 442 [(.ptr (h2).length 0 0), (.ptr (h).length 0 0)]), h4)
abbrev ks363 : List SK := [.one .ref, .one .ref]
abbrev rs363 : List SK := [.one .ref]
def e363 (N : Nat) : Env := ⟨Tryz.prog, 53, inTab [], inTab [], natTab [], inTab [], calTab [], altTab [], loopTab [], natTab [], inTab []⟩
theorem fine363 (N : Nat) : Fine (e363 N) N 363 Tryz.f363 ks363 rs363 (F363 N) :=
  ⟨Tryz.func363, by kernel_rfl, by kernel_rfl, by kernel_rfl, loops_of trivial, by kernel_rfl, by kernel_rfl, fun _ => by kernel_rfl⟩
theorem good363 (N : Nat) : Go.L.Good (e363 N) := good_of trivial
theorem gd363 (N : Nat) : CalOk Tryz.prog 363 (.full (mkFun ks363 rs363 (F363 N))) := mkFun_good (fine363 N) (good363 N)

/-! ### 42: frame.Stack).Copy -/
def L42_0 (N : Nat) : Nat → V × V × Int × Int × H → Option (V × H)
 | 0, _ => none
 | n + 1, (x22, x23, x24, x25, h26) =>
 (if (decide (x25 < x24)) = true then (
 (sidx x23 x25 4).bind fun q27 =>
 (L.asInt .i64 (rd h26 q27 0)).bind fun x28 =>
 (L.asInt .i64 (rd h26 q27 1)).bind fun x29 =>
 ((rd h26 q27 2)).bind fun x30 =>
 (L.asInt .i64 (rd h26 q27 3)).bind fun x31 =>
 (F75 N (x30, h26)).bind fun (x32, _) =>
 (ck1 x32).bind fun _ =>
 (nck x22).bind fun _ =>
 ((rd h26 (padd x22 1) 0)).bind fun x33 =>
 (happ h26 x33 4 1 [(.int .i64 x28), (.int .i64 x29), x32, (.int .i64 x31)]).bind fun (v34, h35) =>
 (nck x22).bind fun _ =>
 (ck1 v34).bind fun _ =>
 (wr h35 (padd x22 1) [v34]).bind fun h36 =>
 L42_0 N n (x22, x23, x24, (IntKind.i64.wrap (x25 + 1)), h36))
 else (
 some (x22, h26)))
def F42 (N : Nat) : V × H → Option (V × H)
 | (a0, h) =>
 (F49 N (a0, h)).bind fun (x1, _) =>
 (if (!x1) = true then (
 none)
 else (
 (nck a0).bind fun _ =>
 ((rd h (padd a0 2) 0)).bind fun x2 =>
 (F75 N (x2, h)).bind fun (x3, _) =>
 (ck1 x3).bind fun _ =>
 (some (h ++ [O.cells 0 [(.bool true), .nils, x3]]) : Option H).bind fun h4 =>
 (nck a0).bind fun _ =>
 ((rd h4 (padd a0 1) 0)).bind fun x5 =>
 (slen x5).bind fun n6 =>
 (L42_0 N N ((.ptr (h).length 0 0), x5, n6, 0, h4)).bind fun (x37, h38) =>
 some (x37, h38)))
abbrev ks42 : List SK := [.one .ref]
abbrev rs42 : List SK := [.one .ref]
def e42 (N : Nat) : Env := ⟨Tryz.prog, 41, inTab [5, 35], inTab [], natTab [(5, 5), (25, 5), (28, 5)], inTab [], calTab [(49, .ro (mkFun ks49 rs49 (F49 N))), (75, .ro (mkFun ks75 rs75 (F75 N)))], altTab [], loopTab [(5, ⟨⟨.normal, [3, 19, 20, 21], [.one .ref, .one .ref, .one (.int .i64), .one (.int .i64)], [], []⟩, [⟨(.exit 0), [3], [.one .ref], [], []⟩], L42_0 N⟩)], natTab [], inTab [2]⟩
theorem l42_0 (N : Nat) : ∀ A, (e42 N).lp (lid (loopAt Tryz.f42 0)) = some A → LoopOk (e42 N) N (loopAt Tryz.f42 0) A :=
  loopOk_of (A := ⟨⟨.normal, [3, 19, 20, 21], [.one .ref, .one .ref, .one (.int .i64), .one (.int .i64)], [], []⟩, [⟨(.exit 0), [3], [.one .ref], [], []⟩], L42_0 N⟩) (by kernel_rfl) (fun _ => rfl) (fun _ _ => by kernel_rfl)
theorem fine42 (N : Nat) : Fine (e42 N) N 42 Tryz.f42 ks42 rs42 (F42 N) :=
  ⟨Tryz.func42, by kernel_rfl, by kernel_rfl, by kernel_rfl, loops_of ⟨l42_0 N, trivial⟩, by kernel_rfl, by kernel_rfl, fun _ => by kernel_rfl⟩
theorem good42 (N : Nat) : Go.L.Good (e42 N) := good_of ⟨gd49 N, ⟨gd75 N, trivial⟩⟩
theorem gd42 (N : Nat) : CalOk Tryz.prog 42 (.full (mkFun ks42 rs42 (F42 N))) := mkFun_good (fine42 N) (good42 N)
theorem gl42 (N : Nat) : CalOk Tryz.prog 42 (.gro (mkFun ks42 rs42 (locF true ks42 rs42 (F42 N)))) := loc_gro (gd42 N)

/-! ### 25: frame.Stack).Depth -/
def F25 (N : Nat) : V × H → Option (Int × H)
 | (a0, h) =>
 (F49 N (a0, h)).bind fun (x1, _) =>
 (if (!x1) = true then (
 none)
 else (
 (nck a0).bind fun _ =>
 ((rd h (padd a0 1) 0)).bind fun x2 =>
 (slen x2).bind fun n3 =>
 some (n3, h)))
abbrev ks25 : List SK := [.one .ref]
abbrev rs25 : List SK := [.one (.int .i64)]
def e25 (N : Nat) : Env := ⟨Tryz.prog, 11, inTab [], inTab [], natTab [], inTab [], calTab [(49, .ro (mkFun ks49 rs49 (F49 N)))], altTab [], loopTab [], natTab [], inTab [2]⟩
theorem fine25 (N : Nat) : Fine (e25 N) N 25 Tryz.f25 ks25 rs25 (F25 N) :=
  ⟨Tryz.func25, by kernel_rfl, by kernel_rfl, by kernel_rfl, loops_of trivial, by kernel_rfl, by kernel_rfl, fun _ => by kernel_rfl⟩
theorem good25 (N : Nat) : Go.L.Good (e25 N) := good_of ⟨gd49 N, trivial⟩
theorem gd25 (N : Nat) : CalOk Tryz.prog 25 (.ro (mkFun ks25 rs25 (F25 N))) := mkFun_ro (fine25 N) (good25 N) (by kernel_rfl)

/-! ### 24: step.given -/
def F24 (N : Nat) : V × H → Option (Bool × H)
 | (a0, h) =>
 Option.bind (α := (V × H)) (locF true ks42 rs42 (F42 N) ((a0, h) : V × H)) fun (x1, h2) =>
 (isNil x1).bind fun b3 =>
 some ((!b3), h2)
abbrev ks24 : List SK := [.one .ref]
abbrev rs24 : List SK := [.one .bool]
def e24 (N : Nat) : Env := ⟨Tryz.prog, 6, inTab [], inTab [], natTab [], inTab [], calTab [(42, .gro (mkFun ks42 rs42 (locF true ks42 rs42 (F42 N))))], altTab [], loopTab [], natTab [], inTab []⟩
theorem fine24 (N : Nat) : Fine (e24 N) N 24 Tryz.f24 ks24 rs24 (F24 N) :=
  ⟨Tryz.func24, by kernel_rfl, by kernel_rfl, by kernel_rfl, loops_of trivial, by kernel_rfl, by kernel_rfl, fun _ => by kernel_rfl⟩
theorem good24 (N : Nat) : Go.L.Good (e24 N) := good_of ⟨gl42 N, trivial⟩
theorem gdg24 (N : Nat) : CalOk Tryz.prog 24 (.gro (mkFun ks24 rs24 (F24 N))) := mkFun_groC (fine24 N) (good24 N) (by kernel_rfl)

/-! ### 41: frame.Stack).Top -/
def F41 (N : Nat) : V × H → Option (Int × Int × Int × H)
 | (a0, h) =>
 (F49 N (a0, h)).bind fun (x1, _) =>
 (if (!x1) = true then (
 none)
 else (
 (F50 N (a0, h)).bind fun (x2, _) =>
 (isNil x2).bind fun b3 =>
 (if b3 = true then (
 none)
 else (
 (nck x2).bind fun _ =>
 (L.asInt .i64 (rd h (padd (padd x2 0) 0) 0)).bind fun x4 =>
 (nck x2).bind fun _ =>
 (L.asInt .i64 (rd h (padd (padd x2 0) 1) 0)).bind fun x5 =>
 some (x4, x5, 0, h)))))
abbrev ks41 : List SK := [.one .ref]
abbrev rs41 : List SK := [.one (.int .i64), .one (.int .i64), .one (.int .i64)]
def e41 (N : Nat) : Env := ⟨Tryz.prog, 23, inTab [], inTab [], natTab [], inTab [], calTab [(49, .ro (mkFun ks49 rs49 (F49 N))), (50, .ro (mkFun ks50 rs50 (F50 N)))], altTab [], loopTab [], natTab [], inTab [2, 5]⟩
theorem fine41 (N : Nat) : Fine (e41 N) N 41 Tryz.f41 ks41 rs41 (F41 N) :=
  ⟨Tryz.func41, by kernel_rfl, by kernel_rfl, by kernel_rfl, loops_of trivial, by kernel_rfl, by kernel_rfl, fun _ => by kernel_rfl⟩
theorem good41 (N : Nat) : Go.L.Good (e41 N) := good_of ⟨gd49 N, ⟨gd50 N, trivial⟩⟩
theorem gd41 (N : Nat) : CalOk Tryz.prog 41 (.ro (mkFun ks41 rs41 (F41 N))) := mkFun_ro (fine41 N) (good41 N) (by kernel_rfl)

/-! ### 18: step.found -/
def F18 (N : Nat) : ByteArray × V × V × H → Option (V × Int × H)
 | (a0_0, a0_1, a1, h) =>
 (F24 N (a1, h)).bind fun (x1, h2) =>
 (if (!x1) = true then (
 none)
 else (
 (F41 N (a1, h2)).bind fun (x3, x4, x5, _) =>
 (if (x5 != 0) = true then (
 none)
 else (
 (slen a0_1).bind fun n6 =>
 (if (decide (x3 ≥ n6)) = true then (
 some (true, h2))
 else (
 (sidx a0_1 x3 4).bind fun q9 =>
 ((rd h2 (padd q9 3) 0)).bind fun x10 =>
 (slen x10).bind fun n11 =>
 some ((decide (x4 ≥ n11)), h2))).bind fun (b7, h8) =>
 (if b7 = true then (
 none)
 else (
 (sidx a0_1 x3 4).bind fun q12 =>
 (L.asStr (rd h8 q12 0)).bind fun x13 =>
 (L.asInt .i64 (rd h8 q12 1)).bind fun x14 =>
 (L.asInt .i64 (rd h8 q12 2)).bind fun x15 =>
 ((rd h8 q12 3)).bind fun x16 =>
 (sidx a0_1 x3 4).bind fun q17 =>
 ((rd h8 (padd q17 3) 0)).bind fun x18 =>
 (sidx x18 x4 11).bind fun q19 =>
 (L.asInt .i64 (rd h8 q19 0)).bind fun x20 =>
 (L.asInt .i64 (rd h8 q19 1)).bind fun x21 =>
 (L.asInt .i64 (rd h8 q19 2)).bind fun x22 =>
 (L.asInt .i64 (rd h8 q19 3)).bind fun x23 =>
 (L.asInt .i64 (rd h8 q19 4)).bind fun x24 =>
 (L.asCplx .f64 (rd h8 q19 5)).bind fun x25 =>
 (L.asStr (rd h8 q19 6)).bind fun x26 =>
 (L.asInt .i64 (rd h8 q19 7)).bind fun x27 =>
 (L.asInt .i64 (rd h8 q19 8)).bind fun x28 =>
 ((rd h8 q19 9)).bind fun x29 =>
 ((rd h8 q19 10)).bind fun x30 =>
 Option.bind (α := (V × H)) (locF true ks42 rs42 (F42 N) ((a1, h8) : V × H)) fun (x31, h32) =>
 (ck1 x31).bind fun _ =>
 (some (h32 ++ [O.cells 0 [(.str a0_0), a0_1, (.str x13), (.int .i64 x14), (.int .i64 x15), x16, (.int .i64 x20), (.int .i64 x21), (.int .i64 x22), (.int .i64 x23), (.int .i64 x24), (.cplx .f64 x25.1 x25.2), (.str x26), (.int .i64 x27), (.int .i64 x28), x29, x30, x31, .nils, (.int .i64 1), (.int .i64 0), (.int .i64 0), (.cplx .f64 0 0), (.str (ByteArray.mk #[])), (.int .i64 0), (.int .i64 0), .nils, (.int .i64 0), (.int .i64 0), (.cplx .f64 0 0), (.str (ByteArray.mk #[])), (.int .i64 0), (.int .i64 0), .nils, .nils, (.int .i64 0), (.int .i64 0), (.int .i64 0), .nils, (.int .i64 (IntKind.i64.wrap (x4 + 1)))]]) : Option H).bind fun h33 =>
 some ((.ptr (h32).length 0 0), 0, h33)))))))
abbrev ks18 : List SK := [.agg [.str, .ref], .one .ref]
abbrev rs18 : List SK := [.one .ref, .one (.int .i64)]
def e18 (N : Nat) : Env := ⟨Tryz.prog, 58, inTab [2], inTab [], natTab [(2, 2), (21, 2), (27, 2), (37, 2), (42, 2)], inTab [], calTab [(24, .gro (mkFun ks24 rs24 (F24 N))), (41, .ro (mkFun ks41 rs41 (F41 N))), (42, .gro (mkFun ks42 rs42 (locF true ks42 rs42 (F42 N))))], altTab [], loopTab [], natTab [], inTab [2, 5, 7]⟩
theorem fine18 (N : Nat) : Fine (e18 N) N 18 Tryz.f18 ks18 rs18 (F18 N) :=
  ⟨Tryz.func18, by kernel_rfl, by kernel_rfl, by kernel_rfl, loops_of trivial, by kernel_rfl, by kernel_rfl, fun _ => by kernel_rfl⟩
theorem good18 (N : Nat) : Go.L.Good (e18 N) := good_of ⟨gdg24 N, ⟨gd41 N, ⟨gl42 N, trivial⟩⟩⟩
theorem gdg18 (N : Nat) : CalOk Tryz.prog 18 (.gro (mkFun ks18 rs18 (F18 N))) := mkFun_groC (fine18 N) (good18 N) (by kernel_rfl)

/-! ### 35: frame.Stack).Height -/
def F35 (N : Nat) : V × H → Option (Int × H)
 | (a0, h) =>
 (F49 N (a0, h)).bind fun (x1, _) =>
 (if (!x1) = true then (
 none)
 else (
 (F59 N (a0, h)).bind fun (x2, _) =>
 some (x2, h)))
abbrev ks35 : List SK := [.one .ref]
abbrev rs35 : List SK := [.one (.int .i64)]
def e35 (N : Nat) : Env := ⟨Tryz.prog, 8, inTab [], inTab [], natTab [], inTab [], calTab [(49, .ro (mkFun ks49 rs49 (F49 N))), (59, .ro (mkFun ks59 rs59 (F59 N)))], altTab [], loopTab [], natTab [], inTab [2]⟩
theorem fine35 (N : Nat) : Fine (e35 N) N 35 Tryz.f35 ks35 rs35 (F35 N) :=
  ⟨Tryz.func35, by kernel_rfl, by kernel_rfl, by kernel_rfl, loops_of trivial, by kernel_rfl, by kernel_rfl, fun _ => by kernel_rfl⟩
theorem good35 (N : Nat) : Go.L.Good (e35 N) := good_of ⟨gd49 N, ⟨gd59 N, trivial⟩⟩
theorem gd35 (N : Nat) : CalOk Tryz.prog 35 (.ro (mkFun ks35 rs35 (F35 N))) := mkFun_ro (fine35 N) (good35 N) (by kernel_rfl)

/-! ### 44: frame.Stack).View -/
def L44_0 (N : Nat) : Nat → V × V × Int × Int × V × V × V × V × H → Option (V × V × V × V × V × H)
 | 0, _ => none
 | n + 1, (x21, x22, x23, x24, x25, x26, x27, x28, h29) =>
 (if (decide (x24 < x23)) = true then (
 (sidx x22 x24 4).bind fun q30 =>
 (L.asInt .i64 (rd h29 q30 0)).bind fun x31 =>
 (L.asInt .i64 (rd h29 q30 1)).bind fun x32 =>
 ((rd h29 q30 2)).bind fun x33 =>
 (L.asInt .i64 (rd h29 q30 3)).bind fun x34 =>
 (F75 N (x33, h29)).bind fun (x35, _) =>
 (ck1 x35).bind fun _ =>
 (happ h29 x27 4 1 [(.int .i64 x31), (.int .i64 x32), x35, (.int .i64 x34)]).bind fun (v36, h37) =>
 (ck1 v36).bind fun _ =>
 L44_0 N n (x21, x22, x23, (IntKind.i64.wrap (x24 + 1)), x25, x26, v36, x28, h37))
 else (
 some (x21, x25, x26, x27, x28, h29)))
def F44 (N : Nat) : V × H → Option (V × V × H)
 | (a0, h) =>
 (F49 N (a0, h)).bind fun (x1, _) =>
 (if (!x1) = true then (
 none)
 else (
 (nck a0).bind fun _ =>
 ((rd h (padd a0 1) 0)).bind fun x2 =>
 (slen x2).bind fun n3 =>
 (L44_0 N N (a0, x2, n3, 0, .nils, .nils, .nils, .nils, h)).bind fun (x38, x39, x40, x41, x42, h43) =>
 (nck x38).bind fun _ =>
 ((rd h43 (padd x38 2) 0)).bind fun x44 =>
 (F75 N (x44, h43)).bind fun (x45, _) =>
 (ck1 x45).bind fun _ =>
 some (x41, x45, h43)))
abbrev ks44 : List SK := [.one .ref]
abbrev rs44 : List SK := [.agg [.ref, .ref]]
def e44 (N : Nat) : Env := ⟨Tryz.prog, 44, inTab [2, 3, 5, 33], inTab [], natTab [(2, 2), (3, 3), (5, 5), (19, 3), (21, 5), (22, 5), (24, 5), (25, 5), (27, 5), (30, 5), (35, 3), (42, 3)], inTab [], calTab [(49, .ro (mkFun ks49 rs49 (F49 N))), (75, .ro (mkFun ks75 rs75 (F75 N)))], altTab [], loopTab [(5, ⟨⟨.normal, [0, 2, 3, 13, 14, 15], [.one .ref, .lp 2 0, .lp 3 0, .one .ref, .one (.int .i64), .one (.int .i64)], [2, 3], [.cells [.ref, .ref], .cells [.ref, .ref]]⟩, [⟨(.exit 0), [0, 2, 3], [.one .ref, .lp 2 0, .lp 3 0], [2, 3], [.cells [.ref, .ref], .cells [.ref, .ref]]⟩], L44_0 N⟩)], natTab [], inTab [3]⟩
theorem l44_0 (N : Nat) : ∀ A, (e44 N).lp (lid (loopAt Tryz.f44 0)) = some A → LoopOk (e44 N) N (loopAt Tryz.f44 0) A :=
  loopOk_of (A := ⟨⟨.normal, [0, 2, 3, 13, 14, 15], [.one .ref, .lp 2 0, .lp 3 0, .one .ref, .one (.int .i64), .one (.int .i64)], [2, 3], [.cells [.ref, .ref], .cells [.ref, .ref]]⟩, [⟨(.exit 0), [0, 2, 3], [.one .ref, .lp 2 0, .lp 3 0], [2, 3], [.cells [.ref, .ref], .cells [.ref, .ref]]⟩], L44_0 N⟩) (by kernel_rfl) (fun _ => rfl) (fun _ _ => by kernel_rfl)
theorem fine44 (N : Nat) : Fine (e44 N) N 44 Tryz.f44 ks44 rs44 (F44 N) :=
  ⟨Tryz.func44, by kernel_rfl, by kernel_rfl, by kernel_rfl, loops_of ⟨l44_0 N, trivial⟩, by kernel_rfl, by kernel_rfl, fun _ => by kernel_rfl⟩
theorem good44 (N : Nat) : Go.L.Good (e44 N) := good_of ⟨gd49 N, ⟨gd75 N, trivial⟩⟩
theorem gd44 (N : Nat) : CalOk Tryz.prog 44 (.full (mkFun ks44 rs44 (F44 N))) := mkFun_good (fine44 N) (good44 N)
theorem gl44 (N : Nat) : CalOk Tryz.prog 44 (.gro (mkFun ks44 rs44 (locF true ks44 rs44 (F44 N)))) := loc_gro (gd44 N)

/-! ### 19: step.doing).takes -/
def L19_0 (N : Nat) : Nat → Int × H → Option (H)
 | 0, _ => none
 | n + 1, (x28, h29) =>
 (if (decide (x28 ≥ 0)) = true then (
 none)
 else (
 some h29))
def F19 (N : Nat) : V × H → Option (Int × H)
 | (a0, h) =>
 (nck a0).bind fun _ =>
 (L.asStr (rd h (padd a0 0) 0)).bind fun x1 =>
 ((rd h (padd a0 0) 1)).bind fun x2 =>
 (nck a0).bind fun _ =>
 (L.asInt .i64 (rd h (padd a0 6) 0)).bind fun x3 =>
 (L.asInt .i64 (rd h (padd a0 6) 1)).bind fun x4 =>
 (L.asInt .i64 (rd h (padd a0 6) 2)).bind fun x5 =>
 (L.asInt .i64 (rd h (padd a0 6) 3)).bind fun x6 =>
 (L.asInt .i64 (rd h (padd a0 6) 4)).bind fun x7 =>
 (L.asCplx .f64 (rd h (padd a0 6) 5)).bind fun x8 =>
 (L.asStr (rd h (padd a0 6) 6)).bind fun x9 =>
 (L.asInt .i64 (rd h (padd a0 6) 7)).bind fun x10 =>
 (L.asInt .i64 (rd h (padd a0 6) 8)).bind fun x11 =>
 ((rd h (padd a0 6) 9)).bind fun x12 =>
 ((rd h (padd a0 6) 10)).bind fun x13 =>
 (F43 N (x1, x2, x3, x4, x5, x6, x7, (x8.1, x8.2), x9, x10, x11, x12, x13, h)).bind fun (x14, x15, x16, _) =>
 (if (x16 != 0) = true then (
 none)
 else (
 (nck a0).bind fun _ =>
 ((rd h (padd a0 17) 0)).bind fun x17 =>
 (F35 N (x17, h)).bind fun (x18, _) =>
 (if (decide (x18 < x14)) = true then (
 none)
 else (
 (nck a0).bind fun _ =>
 ((rd h (padd a0 17) 0)).bind fun x19 =>
 Option.bind (α := (V × V × H)) (locF true ks44 rs44 (F44 N) ((x19, h) : V × H)) fun (x20, x21, h22) =>
 (slen x21).bind fun n23 =>
 (if (decide ((IntKind.i64.wrap ((IntKind.i64.wrap (n23 - x14)) + x15)) > 256)) = true then (
 none)
 else (
 (if 0 ≤ x14 then (if x14 ≤ x14 then (if x14 * ((7 : Nat) : Int) ≤ ((mostCells : Nat) : Int) then (
 (some (h22 ++ [O.cells 0 (repeatC (Int.toNat x14) [(.int .i64 0), (.int .i64 0), (.cplx .f64 0 0), (.str (ByteArray.mk #[])), (.int .i64 0), (.int .i64 0), .nils])]) : Option H).bind fun h24 =>
 (nck a0).bind fun _ =>
 (ck1 (.sl (h22).length 0 0 (Int.toNat x14) 7 (some (Int.toNat x14)))).bind fun _ =>
 (wr h24 (padd a0 18) [(.sl (h22).length 0 0 (Int.toNat x14) 7 (some (Int.toNat x14)))]).bind fun h25 =>
 (L19_0 N N ((IntKind.i64.wrap (x14 - 1)), h25)).bind fun h30 =>
 some (0, h30)) else none) else none) else none)))))))
abbrev ks19 : List SK := [.one .ref]
abbrev rs19 : List SK := [.one (.int .i64)]
def e19 (N : Nat) : Env := ⟨Tryz.prog, 67, inTab [], inTab [], natTab [], inTab [], calTab [(43, .ro (mkFun ks43 rs43 (F43 N))), (35, .ro (mkFun ks35 rs35 (F35 N))), (44, .gro (mkFun ks44 rs44 (locF true ks44 rs44 (F44 N))))], altTab [], loopTab [(10, ⟨⟨.normal, [6], [.one (.int .i64)], [], []⟩, [⟨(.exit 0), [], [], [], []⟩], L19_0 N⟩)], natTab [], inTab [3, 5, 7, 11, 12]⟩
theorem l19_0 (N : Nat) : ∀ A, (e19 N).lp (lid (loopAt Tryz.f19 0)) = some A → LoopOk (e19 N) N (loopAt Tryz.f19 0) A :=
  loopOk_of (A := ⟨⟨.normal, [6], [.one (.int .i64)], [], []⟩, [⟨(.exit 0), [], [], [], []⟩], L19_0 N⟩) (by kernel_rfl) (fun _ => rfl) (fun _ _ => by kernel_rfl)
theorem fine19 (N : Nat) : Fine (e19 N) N 19 Tryz.f19 ks19 rs19 (F19 N) :=
  ⟨Tryz.func19, by kernel_rfl, by kernel_rfl, by kernel_rfl, loops_of ⟨l19_0 N, trivial⟩, by kernel_rfl, by kernel_rfl, fun _ => by kernel_rfl⟩
theorem good19 (N : Nat) : Go.L.Good (e19 N) := good_of ⟨gd43 N, ⟨gd35 N, ⟨gl44 N, trivial⟩⟩⟩
theorem gd19 (N : Nat) : CalOk Tryz.prog 19 (.full (mkFun ks19 rs19 (F19 N))) := mkFun_good (fine19 N) (good19 N)

/-! ### 46: step.ways -/
def F46 (N : Nat) : H → Option (V × H)
 | h =>
 (some (h ++ [O.cells 0 [(.int .i64 1), (.fn 76 []), (.int .i64 2), (.fn 77 []), (.int .i64 3), (.fn 78 []), (.int .i64 4), (.fn 79 []), (.int .i64 5), (.fn 80 []), (.int .i64 17), (.fn 81 []), (.int .i64 18), (.fn 82 []), (.int .i64 19), (.fn 83 []), (.int .i64 25), (.fn 84 []), (.int .i64 26), (.fn 85 []), (.int .i64 27), (.fn 86 []), (.int .i64 28), (.fn 87 []), (.int .i64 29), (.fn 88 []), (.int .i64 30), (.fn 89 []), (.int .i64 31), (.fn 90 []), (.int .i64 32), (.fn 91 []), (.int .i64 33), (.fn 92 []), (.int .i64 34), (.fn 93 []), (.int .i64 35), (.fn 94 []), (.int .i64 36), (.fn 95 []), (.int .i64 37), (.fn 96 []), (.int .i64 38), (.fn 97 []), (.int .i64 39), (.fn 98 []), (.int .i64 40), (.fn 99 []), (.int .i64 41), (.fn 100 []), (.int .i64 42), (.fn 101 []), (.int .i64 43), (.fn 102 []), (.int .i64 44), (.fn 103 []), (.int .i64 45), (.fn 104 []), (.int .i64 46), (.fn 105 [])]]) : Option H).bind fun h1 =>
 some ((.sl (h).length 0 0 30 2 (some 30)), h1)
abbrev ks46 : List SK := []
abbrev rs46 : List SK := [.one .ref]
def e46 (N : Nat) : Env := ⟨Tryz.prog, 32, inTab [], inTab [], natTab [], inTab [], calTab [], altTab [], loopTab [], natTab [], inTab []⟩
theorem fine46 (N : Nat) : Fine (e46 N) N 46 Tryz.f46 ks46 rs46 (F46 N) :=
  ⟨Tryz.func46, by kernel_rfl, by kernel_rfl, by kernel_rfl, loops_of trivial, by kernel_rfl, by kernel_rfl, fun _ => by kernel_rfl⟩
theorem good46 (N : Nat) : Go.L.Good (e46 N) := good_of trivial
theorem gdg46 (N : Nat) : CalOk Tryz.prog 46 (.gro (mkFun ks46 rs46 (F46 N))) := mkFun_groC (fine46 N) (good46 N) (by kernel_rfl)

/-! ### 84: step.doing).jump -/
def F84 (N : Nat) : V × H → Option (Int × H)
 | (a0, h) =>
 (nck a0).bind fun _ =>
 (L.asInt .i64 (rd h (padd (padd a0 6) 1) 0)).bind fun x1 =>
 (nck a0).bind fun _ =>
 (wr h (padd a0 39) [(.int .i64 x1)]).bind fun h2 =>
 some (0, h2)
abbrev ks84 : List SK := [.one .ref]
abbrev rs84 : List SK := [.one (.int .i64)]
def e84 (N : Nat) : Env := ⟨Tryz.prog, 11, inTab [], inTab [], natTab [], inTab [], calTab [], altTab [], loopTab [], natTab [], inTab []⟩
theorem fine84 (N : Nat) : Fine (e84 N) N 84 Tryz.f84 ks84 rs84 (F84 N) :=
  ⟨Tryz.func84, by kernel_rfl, by kernel_rfl, by kernel_rfl, loops_of trivial, by kernel_rfl, by kernel_rfl, fun _ => by kernel_rfl⟩
theorem good84 (N : Nat) : Go.L.Good (e84 N) := good_of trivial
theorem gd84 (N : Nat) : CalOk Tryz.prog 84 (.full (mkFun ks84 rs84 (F84 N))) := mkFun_good (fine84 N) (good84 N)

/-! ### 20: step.doing).does -/
abbrev rs20_22 : List SK := [.one (.int .i64)]
def D20_22 (N : Nat) : List (Nat × (List V → H → Option (Tup rs20_22 H))) := [(84, (mkFun ks84 rs84 (F84 N)).F)]
theorem dg20_22 (N : Nat) : CalOk Tryz.prog 16777238 (.dyn (dynF rs20_22 (D20_22 N))) := dyn_good ⟨mkFun_good (fine84 N) (good84 N), trivial⟩
def L20_0 (N : Nat) : Nat → V × V × Int × Int × H → Option ((H) ⊕ (Int × H))
 | 0, _ => none
 | n + 1, (x15, x16, x17, x18, h19) =>
 (if (decide (x18 < x17)) = true then (
 (sidx x16 x18 2).bind fun q20 =>
 (L.asInt .i64 (rd h19 q20 0)).bind fun x21 =>
 ((rd h19 q20 1)).bind fun x22 =>
 (nck x15).bind fun _ =>
 (L.asInt .i64 (rd h19 (padd (padd x15 6) 0) 0)).bind fun x23 =>
 (if (x21 == x23) = true then (
 Option.bind (α := Int × H) (dynC rs20_22 (D20_22 N) x22 [x15] h19) fun (x24, h25) =>
 some (.inr (x24, h25)))
 else (
 L20_0 N n (x15, x16, x17, (IntKind.i64.wrap (x18 + 1)), h19))))
 else (
 some (.inl h19)))
def F20 (N : Nat) : V × H → Option (Int × H)
 | (a0, h) =>
 (F46 N h).bind fun (x1, h2) =>
 (slen x1).bind fun n3 =>
 (L20_0 N N (a0, x1, n3, 0, h2)).bind fun o26 => match o26 with
 | .inl h27 => (
 none)
 | .inr (x28, h29) => (
 some (x28, h29))
abbrev ks20 : List SK := [.one .ref]
abbrev rs20 : List SK := [.one (.int .i64)]
def e20 (N : Nat) : Env := ⟨Tryz.prog, 34, inTab [4], inTab [], natTab [(4, 4), (11, 4), (19, 4)], inTab [], calTab [(46, .gro (mkFun ks46 rs46 (F46 N))), (16777238, .dyn (dynF rs20_22 (D20_22 N)))], altTab [], loopTab [(2, ⟨⟨.normal, [0, 5, 6, 7], [.one .ref, .one .ref, .one (.int .i64), .one (.int .i64)], [], []⟩, [⟨(.exit 0), [], [], [], []⟩, ⟨.ret, [2], [.one (.int .i64)], [], []⟩], L20_0 N⟩)], natTab [], inTab [7, 8, 9]⟩
theorem l20_0 (N : Nat) : ∀ A, (e20 N).lp (lid (loopAt Tryz.f20 0)) = some A → LoopOk (e20 N) N (loopAt Tryz.f20 0) A :=
  loopOk_of (A := ⟨⟨.normal, [0, 5, 6, 7], [.one .ref, .one .ref, .one (.int .i64), .one (.int .i64)], [], []⟩, [⟨(.exit 0), [], [], [], []⟩, ⟨.ret, [2], [.one (.int .i64)], [], []⟩], L20_0 N⟩) (by kernel_rfl) (fun _ => rfl) (fun _ _ => by kernel_rfl)
theorem fine20 (N : Nat) : Fine (e20 N) N 20 Tryz.f20 ks20 rs20 (F20 N) :=
  ⟨Tryz.func20, by kernel_rfl, by kernel_rfl, by kernel_rfl, loops_of ⟨l20_0 N, trivial⟩, by kernel_rfl, by kernel_rfl, fun _ => by kernel_rfl⟩
theorem good20 (N : Nat) : Go.L.Good (e20 N) := good_of ⟨gdg46 N, ⟨dg20_22 N, trivial⟩⟩
theorem gd20 (N : Nat) : CalOk Tryz.prog 20 (.full (mkFun ks20 rs20 (F20 N))) := mkFun_good (fine20 N) (good20 N)

/-! ### 21: frame.Stack).Go -/
def F21 (N : Nat) : V × Int × H → Option (Int × H)
 | (a0, a1, h) =>
 (F49 N (a0, h)).bind fun (x1, _) =>
 (if (!x1) = true then (
 some (true, h))
 else (
 some ((decide (a1 < 0)), h))).bind fun (b2, h3) =>
 (if b2 = true then (
 some (true, h3))
 else (
 some ((decide (a1 ≥ 1024)), h3))).bind fun (b4, h5) =>
 (if b4 = true then (
 none)
 else (
 (F50 N (a0, h5)).bind fun (x6, _) =>
 (isNil x6).bind fun b7 =>
 (if b7 = true then (
 none)
 else (
 (nck x6).bind fun _ =>
 (wr h5 (padd (padd x6 0) 1) [(.int .i64 a1)]).bind fun h8 =>
 some (0, h8)))))
abbrev ks21 : List SK := [.one .ref, .one (.int .i64)]
abbrev rs21 : List SK := [.one (.int .i64)]
def e21 (N : Nat) : Env := ⟨Tryz.prog, 26, inTab [], inTab [], natTab [], inTab [], calTab [(49, .ro (mkFun ks49 rs49 (F49 N))), (50, .ro (mkFun ks50 rs50 (F50 N)))], altTab [], loopTab [], natTab [], inTab [2, 5]⟩
theorem fine21 (N : Nat) : Fine (e21 N) N 21 Tryz.f21 ks21 rs21 (F21 N) :=
  ⟨Tryz.func21, by kernel_rfl, by kernel_rfl, by kernel_rfl, loops_of trivial, by kernel_rfl, by kernel_rfl, fun _ => by kernel_rfl⟩
theorem good21 (N : Nat) : Go.L.Good (e21 N) := good_of ⟨gd49 N, ⟨gd50 N, trivial⟩⟩
theorem gd21 (N : Nat) : CalOk Tryz.prog 21 (.full (mkFun ks21 rs21 (F21 N))) := mkFun_good (fine21 N) (good21 N)

/-! ### 22: code.Cost -/
def F22 (N : Nat) : Int × Int × Int × Int × Int × (Nat × Nat) × ByteArray × Int × Int × V × V × H → Option (Int × Int × H)
 | (a0_0, a0_1, a0_2, a0_3, a0_4, a0_5, a0_6, a0_7, a0_8, a0_9, a0_10, h) =>
 (F51 100 (a0_0, [])).bind fun (x1, _) =>
 (if (!x1) = true then (
 none)
 else (
 (if (a0_0 == 34) = true then (
 none)
 else (
 (if (a0_0 == 32) = true then (
 none)
 else (
 ((if (a0_0 == 18) = true then (
 some ((a0_0 == 18), h))
 else (
 (if (a0_0 == 19) = true then (
 some ((a0_0 == 19), h))
 else (
 (if (a0_0 == 27) = true then (
 some ((a0_0 == 27), h))
 else (
 (if (a0_0 == 28) = true then (
 some ((a0_0 == 28), h))
 else (
 (if (a0_0 == 33) = true then (
 some ((a0_0 == 33), h))
 else (
 (if (a0_0 == 35) = true then (
 some ((a0_0 == 35), h))
 else (
 (if (a0_0 == 36) = true then (
 some ((a0_0 == 36), h))
 else (
 (if (a0_0 == 37) = true then (
 some ((a0_0 == 37), h))
 else (
 (if (a0_0 == 38) = true then (
 some ((a0_0 == 38), h))
 else (
 (if (a0_0 == 39) = true then (
 some ((a0_0 == 39), h))
 else (
 (if (a0_0 == 40) = true then (
 some ((a0_0 == 40), h))
 else (
 (if (a0_0 == 42) = true then (
 some ((a0_0 == 42), h))
 else (
 (if (a0_0 == 43) = true then (
 some ((a0_0 == 43), h))
 else (
 some ((a0_0 == 44), h))))))))))))))))))))))))))) : Option (Bool × H)).bind fun (x2, h3) =>
 (if x2 = true then (
 none)
 else (
 some (1, 0, h3)))))))))
abbrev ks22 : List SK := [.agg [(.int .i64), (.int .i64), (.int .i64), (.int .i64), (.int .i64), (.cplx .f64), .str, (.int .i64), (.int .i64), .ref, .ref]]
abbrev rs22 : List SK := [.one (.int .i64), .one (.int .i64)]
def e22 (N : Nat) : Env := ⟨Tryz.prog, 29, inTab [1], inTab [], natTab [(1, 1), (4, 1), (8, 1)], inTab [], calTab [(51, .pure (mkP ks51 rs51 (F51 100)))], altTab [(2415919118, [⟨.normal, [14], [.one .bool], [], []⟩])], loopTab [], natTab [], inTab [2, 5, 7, 22]⟩
theorem fine22 (N : Nat) : Fine (e22 N) N 22 Tryz.f22 ks22 rs22 (F22 N) :=
  ⟨Tryz.func22, by kernel_rfl, by kernel_rfl, by kernel_rfl, loops_of trivial, by kernel_rfl, by kernel_rfl, fun _ => by kernel_rfl⟩
theorem good22 (N : Nat) : Go.L.Good (e22 N) := good_of ⟨gd51, trivial⟩
theorem gd22 (N : Nat) : CalOk Tryz.prog 22 (.ro (mkFun ks22 rs22 (F22 N))) := mkFun_ro (fine22 N) (good22 N) (by kernel_rfl)

/-! ### 5: step.Do -/
def F5 (N : Nat) : ByteArray × V × V × H → Option (Int × Int × Int × (Nat × Nat) × ByteArray × Int × Int × V × Int × Int × (Nat × Nat) × ByteArray × Int × Int × V × V × Int × Int × Int × V × Int × Int × H)
 | (a0_0, a0_1, a1, h) =>
 (F18 N (a0_0, a0_1, a1, h)).bind fun (x1, x2, h3) =>
 (if (x2 != 0) = true then (
 none)
 else (
 (F19 N (x1, h3)).bind fun (x4, h5) =>
 (if (x4 != 0) = true then (
 none)
 else (
 (F20 N (x1, h5)).bind fun (x6, h7) =>
 (if (x6 != 0) = true then (
 none)
 else (
 (nck x1).bind fun _ =>
 (L.asInt .i64 (rd h7 (padd x1 39) 0)).bind fun x8 =>
 (if (decide (x8 ≥ 0)) = true then (
 some (true, h7))
 else (
 (nck x1).bind fun _ =>
 (L.asInt .i64 (rd h7 (padd (padd x1 6) 0) 0)).bind fun x11 =>
 some ((x11 == 25), h7))).bind fun (b9, h10) =>
 (if b9 = true then (
 some (true, h10))
 else (
 (nck x1).bind fun _ =>
 (L.asInt .i64 (rd h10 (padd (padd x1 6) 0) 0)).bind fun x14 =>
 some ((x14 == 26), h10))).bind fun (b12, h13) =>
 (if b12 = true then (
 some (true, h13))
 else (
 (nck x1).bind fun _ =>
 (L.asInt .i64 (rd h13 (padd (padd x1 6) 0) 0)).bind fun x17 =>
 some ((x17 == 27), h13))).bind fun (b15, h16) =>
 ((if b15 = true then (
 (nck x1).bind fun _ =>
 (L.asInt .i64 (rd h16 (padd x1 39) 0)).bind fun x18 =>
 (if (decide (x18 < 0)) = true then (
 some (true, h16))
 else (
 (nck x1).bind fun _ =>
 (L.asInt .i64 (rd h16 (padd x1 39) 0)).bind fun x21 =>
 (nck x1).bind fun _ =>
 ((rd h16 (padd (padd x1 2) 3) 0)).bind fun x22 =>
 (slen x22).bind fun n23 =>
 some ((decide (x21 ≥ n23)), h16))).bind fun (b19, h20) =>
 (if b19 = true then (
 none)
 else (
 (nck x1).bind fun _ =>
 ((rd h20 (padd x1 17) 0)).bind fun x24 =>
 (nck x1).bind fun _ =>
 (L.asInt .i64 (rd h20 (padd x1 39) 0)).bind fun x25 =>
 (F21 N (x24, x25, h20)).bind fun (x26, h27) =>
 some (a1, x1, 0, 0, 0, (0, 0), (ByteArray.mk #[]), 0, 0, .nils, 0, 0, (0, 0), (ByteArray.mk #[]), 0, 0, .nils, .nils, 0, 0, 0, .nils, h27))))
 else (
 some (a1, x1, 0, 0, 0, (0, 0), (ByteArray.mk #[]), 0, 0, .nils, 0, 0, (0, 0), (ByteArray.mk #[]), 0, 0, .nils, .nils, 0, 0, 0, .nils, h16))) : Option (V × V × Int × Int × Int × (Nat × Nat) × ByteArray × Int × Int × V × Int × Int × (Nat × Nat) × ByteArray × Int × Int × V × V × Int × Int × Int × V × H)).bind fun (x28, x29, x30, x31, x32, x33, x34, x35, x36, x37, x38, x39, x40, x41, x42, x43, x44, x45, x46, x47, x48, x49, h50) =>
 (nck x29).bind fun _ =>
 ((rd h50 (padd x29 17) 0)).bind fun x51 =>
 (nck x51).bind fun _ =>
 (L.asBool (rd h50 x51 0)).bind fun x52 =>
 ((rd h50 x51 1)).bind fun x53 =>
 ((rd h50 x51 2)).bind fun x54 =>
 (nck x28).bind fun _ =>
 (wr h50 x28 [(.bool x52), x53, x54]).bind fun h55 =>
 (nck x29).bind fun _ =>
 (L.asInt .i64 (rd h55 (padd x29 6) 0)).bind fun x56 =>
 (L.asInt .i64 (rd h55 (padd x29 6) 1)).bind fun x57 =>
 (L.asInt .i64 (rd h55 (padd x29 6) 2)).bind fun x58 =>
 (L.asInt .i64 (rd h55 (padd x29 6) 3)).bind fun x59 =>
 (L.asInt .i64 (rd h55 (padd x29 6) 4)).bind fun x60 =>
 (L.asCplx .f64 (rd h55 (padd x29 6) 5)).bind fun x61 =>
 (L.asStr (rd h55 (padd x29 6) 6)).bind fun x62 =>
 (L.asInt .i64 (rd h55 (padd x29 6) 7)).bind fun x63 =>
 (L.asInt .i64 (rd h55 (padd x29 6) 8)).bind fun x64 =>
 ((rd h55 (padd x29 6) 9)).bind fun x65 =>
 ((rd h55 (padd x29 6) 10)).bind fun x66 =>
 (F22 N (x56, x57, x58, x59, x60, (x61.1, x61.2), x62, x63, x64, x65, x66, h55)).bind fun (x67, x68, _) =>
 (nck x29).bind fun _ =>
 (L.asInt .i64 (rd h55 (padd x29 19) 0)).bind fun x69 =>
 (L.asInt .i64 (rd h55 (padd x29 19) 1)).bind fun x70 =>
 (L.asInt .i64 (rd h55 (padd x29 19) 2)).bind fun x71 =>
 (L.asCplx .f64 (rd h55 (padd x29 19) 3)).bind fun x72 =>
 (L.asStr (rd h55 (padd x29 19) 4)).bind fun x73 =>
 (L.asInt .i64 (rd h55 (padd x29 19) 5)).bind fun x74 =>
 (L.asInt .i64 (rd h55 (padd x29 19) 6)).bind fun x75 =>
 ((rd h55 (padd x29 19) 7)).bind fun x76 =>
 (L.asInt .i64 (rd h55 (padd x29 19) 8)).bind fun x77 =>
 (L.asInt .i64 (rd h55 (padd x29 19) 9)).bind fun x78 =>
 (L.asCplx .f64 (rd h55 (padd x29 19) 10)).bind fun x79 =>
 (L.asStr (rd h55 (padd x29 19) 11)).bind fun x80 =>
 (L.asInt .i64 (rd h55 (padd x29 19) 12)).bind fun x81 =>
 (L.asInt .i64 (rd h55 (padd x29 19) 13)).bind fun x82 =>
 ((rd h55 (padd x29 19) 14)).bind fun x83 =>
 ((rd h55 (padd x29 19) 15)).bind fun x84 =>
 (L.asInt .i64 (rd h55 (padd x29 19) 16)).bind fun x85 =>
 (L.asInt .i64 (rd h55 (padd x29 19) 17)).bind fun x86 =>
 (L.asInt .i64 (rd h55 (padd x29 19) 18)).bind fun x87 =>
 ((rd h55 (padd x29 19) 19)).bind fun x88 =>
 some (x69, x70, x71, (x72.1, x72.2), x73, x74, x75, x76, x77, x78, (x79.1, x79.2), x80, x81, x82, x83, x84, x85, x86, x87, x88, x67, 0, h55)))))))
abbrev ks5 : List SK := [.agg [.str, .ref], .one .ref]
abbrev rs5 : List SK := [.agg [(.int .i64), (.int .i64), (.int .i64), (.cplx .f64), .str, (.int .i64), (.int .i64), .ref, (.int .i64), (.int .i64), (.cplx .f64), .str, (.int .i64), (.int .i64), .ref, .ref, (.int .i64), (.int .i64), (.int .i64), .ref], .one (.int .i64), .one (.int .i64)]
def e5 (N : Nat) : Env := ⟨Tryz.prog, 113, inTab [2, 4], inTab [], natTab [(2, 2), (4, 4)], inTab [], calTab [(18, .gro (mkFun ks18 rs18 (F18 N))), (19, .full (mkFun ks19 rs19 (F19 N))), (20, .full (mkFun ks20 rs20 (F20 N))), (21, .full (mkFun ks21 rs21 (F21 N))), (22, .ro (mkFun ks22 rs22 (F22 N)))], altTab [(720959, [⟨.normal, [1, 4, 7], [.one .ref, .lp 4 0, .one .ref], [4], [.cells [(.int .i64), (.int .i64), (.int .i64), (.cplx .f64), .str, (.int .i64), (.int .i64), .ref, (.int .i64), (.int .i64), (.cplx .f64), .str, (.int .i64), (.int .i64), .ref, .ref, (.int .i64), (.int .i64), (.int .i64), .ref]]⟩])], loopTab [], natTab [], inTab [3, 6, 9, 12]⟩
theorem fine5 (N : Nat) : Fine (e5 N) N 5 Tryz.f5 ks5 rs5 (F5 N) :=
  ⟨Tryz.func5, by kernel_rfl, by kernel_rfl, by kernel_rfl, loops_of trivial, by kernel_rfl, by kernel_rfl, fun _ => by kernel_rfl⟩
theorem good5 (N : Nat) : Go.L.Good (e5 N) := good_of ⟨gdg18 N, ⟨gd19 N, ⟨gd20 N, ⟨gd21 N, ⟨gd22 N, trivial⟩⟩⟩⟩⟩
theorem gd5 (N : Nat) : CalOk Tryz.prog 5 (.full (mkFun ks5 rs5 (F5 N))) := mkFun_good (fine5 N) (good5 N)
theorem gl5 (N : Nat) : CalOk Tryz.prog 5 (.full (mkFun ks5 rs5 (locF false ks5 rs5 (F5 N)))) := loc_full (gd5 N)

/-! ### 365: api.Pid] -/
def F365 (N : Nat) : V × H → Option (V × H)
 | (a0, h) =>
 (isNilS a0).bind fun b1 =>
 (if b1 = true then (
 some (.nils, h))
 else (
 none))
abbrev ks365 : List SK := [.one .ref]
abbrev rs365 : List SK := [.one .ref]
def e365 (N : Nat) : Env := ⟨Tryz.prog, 8, inTab [], inTab [], natTab [], inTab [], calTab [], altTab [], loopTab [], natTab [], inTab [3]⟩
theorem fine365 (N : Nat) : Fine (e365 N) N 365 Tryz.f365 ks365 rs365 (F365 N) :=
  ⟨Tryz.func365, by kernel_rfl, by kernel_rfl, by kernel_rfl, loops_of trivial, by kernel_rfl, by kernel_rfl, fun _ => by kernel_rfl⟩
theorem good365 (N : Nat) : Go.L.Good (e365 N) := good_of trivial
theorem gd365 (N : Nat) : CalOk Tryz.prog 365 (.ro (mkFun ks365 rs365 (F365 N))) := mkFun_ro (fine365 N) (good365 N) (by kernel_rfl)

/-! ### 274: node.shown -/
def F274 (N : Nat) : Bool × V × V × Int × Int × Int × Int × Int × Int × Int × Int × (Nat × Nat) × ByteArray × Int × Int × V × Int × Int × V × H → Option (Bool × V × V × Int × Int × Int × Int × Int × Int × Int × Int × (Nat × Nat) × ByteArray × Int × Int × V × Int × Int × V × H)
 | (a0_0, a0_1, a0_2, a0_3, a0_4, a0_5, a0_6, a0_7, a0_8, a0_9, a0_10, a0_11, a0_12, a0_13, a0_14, a0_15, a0_16, a0_17, a0_18, h) =>
 Option.bind (α := (V × H)) (locF true ks140 rs140 (F140 N) ((a0_1, h) : V × H)) fun (x1, h2) =>
 (F365 N (a0_2, h2)).bind fun (x3, _) =>
 Option.bind (α := (V × H)) (locF true ks140 rs140 (F140 N) ((a0_18, h2) : V × H)) fun (x4, h5) =>
 (ck1 x1).bind fun _ =>
 (ck1 x3).bind fun _ =>
 (ck1 x4).bind fun _ =>
 some (a0_0, x1, x3, a0_3, a0_4, a0_5, a0_6, a0_7, a0_8, a0_9, a0_10, (a0_11.1, a0_11.2), a0_12, a0_13, a0_14, a0_15, a0_16, a0_17, x4, h5)
abbrev ks274 : List SK := [.agg [.bool, .ref, .ref, (.int .i64), (.int .i64), (.int .i64), (.int .i64), (.int .i64), (.int .i64), (.int .i64), (.int .i64), (.cplx .f64), .str, (.int .i64), (.int .i64), .ref, (.int .i64), (.int .i64), .ref]]
abbrev rs274 : List SK := [.agg [.bool, .ref, .ref, (.int .i64), (.int .i64), (.int .i64), (.int .i64), (.int .i64), (.int .i64), (.int .i64), (.int .i64), (.cplx .f64), .str, (.int .i64), (.int .i64), .ref, (.int .i64), (.int .i64), .ref]]
def e274 (N : Nat) : Env := ⟨Tryz.prog, 16, inTab [1, 2], inTab [], natTab [(1, 1), (2, 2), (3, 1), (6, 1), (9, 1), (12, 1), (13, 1), (14, 1)], inTab [], calTab [(140, .gro (mkFun ks140 rs140 (locF true ks140 rs140 (F140 N)))), (365, .ro (mkFun ks365 rs365 (F365 N)))], altTab [], loopTab [], natTab [], inTab []⟩
theorem fine274 (N : Nat) : Fine (e274 N) N 274 Tryz.f274 ks274 rs274 (F274 N) :=
  ⟨Tryz.func274, by kernel_rfl, by kernel_rfl, by kernel_rfl, loops_of trivial, by kernel_rfl, by kernel_rfl, fun _ => by kernel_rfl⟩
theorem good274 (N : Nat) : Go.L.Good (e274 N) := good_of ⟨gl140 N, ⟨gd365 N, trivial⟩⟩
theorem gdg274 (N : Nat) : CalOk Tryz.prog 274 (.gro (mkFun ks274 rs274 (F274 N))) := mkFun_groC (fine274 N) (good274 N) (by kernel_rfl)

/-! ### 218: node.modulesOf -/
def L218_0 (N : Nat) : Nat → V × V × Int × Int × H → Option (V × H)
 | 0, _ => none
 | n + 1, (x15, x16, x17, x18, h19) =>
 (if (decide (x18 < x17)) = true then (
 (sidx x16 x18 2).bind fun q20 =>
 (L.asStr (rd h19 q20 0)).bind fun x21 =>
 ((rd h19 q20 1)).bind fun x22 =>
 Option.bind (α := (ByteArray × V × H)) (locF true ks264 rs264 (F264 N) ((x21, x22, h19) : ByteArray × V × H)) fun (x23, x24, h25) =>
 (happ h25 x15 2 1 [(.str x23), x24]).bind fun (v26, h27) =>
 L218_0 N n (v26, x16, x17, (IntKind.i64.wrap (x18 + 1)), h27))
 else (
 some (x15, h19)))
def F218 (N : Nat) : V × H → Option (V × H)
 | (a0, h) =>
 (slen a0).bind fun n1 =>
 (L218_0 N N (.nils, a0, n1, 0, h)).bind fun (x28, h29) =>
 some (x28, h29)
abbrev ks218 : List SK := [.one .ref]
abbrev rs218 : List SK := [.one .ref]
def e218 (N : Nat) : Env := ⟨Tryz.prog, 19, inTab [5, 15], inTab [], natTab [(5, 5)], inTab [], calTab [(264, .gro (mkFun ks264 rs264 (locF true ks264 rs264 (F264 N))))], altTab [], loopTab [(3, ⟨⟨.normal, [3, 6, 7, 8], [.one .ref, .one .ref, .one (.int .i64), .one (.int .i64)], [], []⟩, [⟨(.exit 0), [3], [.one .ref], [], []⟩], L218_0 N⟩)], natTab [], inTab []⟩
theorem l218_0 (N : Nat) : ∀ A, (e218 N).lp (lid (loopAt Tryz.f218 0)) = some A → LoopOk (e218 N) N (loopAt Tryz.f218 0) A :=
  loopOk_of (A := ⟨⟨.normal, [3, 6, 7, 8], [.one .ref, .one .ref, .one (.int .i64), .one (.int .i64)], [], []⟩, [⟨(.exit 0), [3], [.one .ref], [], []⟩], L218_0 N⟩) (by kernel_rfl) (fun _ => rfl) (fun _ _ => by kernel_rfl)
theorem fine218 (N : Nat) : Fine (e218 N) N 218 Tryz.f218 ks218 rs218 (F218 N) :=
  ⟨Tryz.func218, by kernel_rfl, by kernel_rfl, by kernel_rfl, loops_of ⟨l218_0 N, trivial⟩, by kernel_rfl, by kernel_rfl, fun _ => by kernel_rfl⟩
theorem good218 (N : Nat) : Go.L.Good (e218 N) := good_of ⟨gl264 N, trivial⟩
theorem gd218 (N : Nat) : CalOk Tryz.prog 218 (.full (mkFun ks218 rs218 (F218 N))) := mkFun_good (fine218 N) (good218 N)
theorem gl218 (N : Nat) : CalOk Tryz.prog 218 (.gro (mkFun ks218 rs218 (locF true ks218 rs218 (F218 N)))) := loc_gro (gd218 N)

/-! ### 214: node.donesOf -/
def L214_0 (N : Nat) : Nat → V × V × Int × Int × H → Option (V × H)
 | 0, _ => none
 | n + 1, (x57, x58, x59, x60, h61) =>
 (if (decide (x60 < x59)) = true then (
 (sidx x58 x60 29).bind fun q62 =>
 (rdN h61 q62 29).bind fun cs63 =>
 (if (cs63).length = 29 then (
 (if 0 + (cs63).length ≤ 29 then (
 ((splice [(.int .i64 0), (.int .i64 0), (.int .i64 0), (.int .i64 0), (.int .i64 0), (.int .i64 0), (.int .i64 0), .nils, (.int .i64 0), (.bool false), .nils, .nils, (.int .i64 0), (.int .i64 0), (.int .i64 0), (.int .i64 0), (.int .i64 0), (.int .i64 0), (.int .i64 0), (.int .i64 0), (.cplx .f64 0 0), (.str (ByteArray.mk #[])), (.int .i64 0), (.int .i64 0), .nils, (.int .i64 0), (.int .i64 0), .nils, .nils] 0 cs63)[7]?).bind fun x64 =>
 (F75 N (x64, h61)).bind fun (x65, _) =>
 ((splice [(.int .i64 0), (.int .i64 0), (.int .i64 0), (.int .i64 0), (.int .i64 0), (.int .i64 0), (.int .i64 0), .nils, (.int .i64 0), (.bool false), .nils, .nils, (.int .i64 0), (.int .i64 0), (.int .i64 0), (.int .i64 0), (.int .i64 0), (.int .i64 0), (.int .i64 0), (.int .i64 0), (.cplx .f64 0 0), (.str (ByteArray.mk #[])), (.int .i64 0), (.int .i64 0), .nils, (.int .i64 0), (.int .i64 0), .nils, .nils] 0 cs63)[28]?).bind fun x66 =>
 Option.bind (α := (V × H)) (locF true ks218 rs218 (F218 N) ((x66, h61) : V × H)) fun (x67, h68) =>
 (L.asBool (splice [(.int .i64 0), (.int .i64 0), (.int .i64 0), (.int .i64 0), (.int .i64 0), (.int .i64 0), (.int .i64 0), .nils, (.int .i64 0), (.bool false), .nils, .nils, (.int .i64 0), (.int .i64 0), (.int .i64 0), (.int .i64 0), (.int .i64 0), (.int .i64 0), (.int .i64 0), (.int .i64 0), (.cplx .f64 0 0), (.str (ByteArray.mk #[])), (.int .i64 0), (.int .i64 0), .nils, (.int .i64 0), (.int .i64 0), .nils, .nils] 0 cs63)[9]?).bind fun x69 =>
 ((splice [(.int .i64 0), (.int .i64 0), (.int .i64 0), (.int .i64 0), (.int .i64 0), (.int .i64 0), (.int .i64 0), .nils, (.int .i64 0), (.bool false), .nils, .nils, (.int .i64 0), (.int .i64 0), (.int .i64 0), (.int .i64 0), (.int .i64 0), (.int .i64 0), (.int .i64 0), (.int .i64 0), (.cplx .f64 0 0), (.str (ByteArray.mk #[])), (.int .i64 0), (.int .i64 0), .nils, (.int .i64 0), (.int .i64 0), .nils, .nils] 0 cs63)[10]?).bind fun x70 =>
 ((splice [(.int .i64 0), (.int .i64 0), (.int .i64 0), (.int .i64 0), (.int .i64 0), (.int .i64 0), (.int .i64 0), .nils, (.int .i64 0), (.bool false), .nils, .nils, (.int .i64 0), (.int .i64 0), (.int .i64 0), (.int .i64 0), (.int .i64 0), (.int .i64 0), (.int .i64 0), (.int .i64 0), (.cplx .f64 0 0), (.str (ByteArray.mk #[])), (.int .i64 0), (.int .i64 0), .nils, (.int .i64 0), (.int .i64 0), .nils, .nils] 0 cs63)[11]?).bind fun x71 =>
 (L.asInt .i64 (splice [(.int .i64 0), (.int .i64 0), (.int .i64 0), (.int .i64 0), (.int .i64 0), (.int .i64 0), (.int .i64 0), .nils, (.int .i64 0), (.bool false), .nils, .nils, (.int .i64 0), (.int .i64 0), (.int .i64 0), (.int .i64 0), (.int .i64 0), (.int .i64 0), (.int .i64 0), (.int .i64 0), (.cplx .f64 0 0), (.str (ByteArray.mk #[])), (.int .i64 0), (.int .i64 0), .nils, (.int .i64 0), (.int .i64 0), .nils, .nils] 0 cs63)[12]?).bind fun x72 =>
 (L.asInt .i64 (splice [(.int .i64 0), (.int .i64 0), (.int .i64 0), (.int .i64 0), (.int .i64 0), (.int .i64 0), (.int .i64 0), .nils, (.int .i64 0), (.bool false), .nils, .nils, (.int .i64 0), (.int .i64 0), (.int .i64 0), (.int .i64 0), (.int .i64 0), (.int .i64 0), (.int .i64 0), (.int .i64 0), (.cplx .f64 0 0), (.str (ByteArray.mk #[])), (.int .i64 0), (.int .i64 0), .nils, (.int .i64 0), (.int .i64 0), .nils, .nils] 0 cs63)[13]?).bind fun x73 =>
 (L.asInt .i64 (splice [(.int .i64 0), (.int .i64 0), (.int .i64 0), (.int .i64 0), (.int .i64 0), (.int .i64 0), (.int .i64 0), .nils, (.int .i64 0), (.bool false), .nils, .nils, (.int .i64 0), (.int .i64 0), (.int .i64 0), (.int .i64 0), (.int .i64 0), (.int .i64 0), (.int .i64 0), (.int .i64 0), (.cplx .f64 0 0), (.str (ByteArray.mk #[])), (.int .i64 0), (.int .i64 0), .nils, (.int .i64 0), (.int .i64 0), .nils, .nils] 0 cs63)[14]?).bind fun x74 =>
 (L.asInt .i64 (splice [(.int .i64 0), (.int .i64 0), (.int .i64 0), (.int .i64 0), (.int .i64 0), (.int .i64 0), (.int .i64 0), .nils, (.int .i64 0), (.bool false), .nils, .nils, (.int .i64 0), (.int .i64 0), (.int .i64 0), (.int .i64 0), (.int .i64 0), (.int .i64 0), (.int .i64 0), (.int .i64 0), (.cplx .f64 0 0), (.str (ByteArray.mk #[])), (.int .i64 0), (.int .i64 0), .nils, (.int .i64 0), (.int .i64 0), .nils, .nils] 0 cs63)[15]?).bind fun x75 =>
 (L.asInt .i64 (splice [(.int .i64 0), (.int .i64 0), (.int .i64 0), (.int .i64 0), (.int .i64 0), (.int .i64 0), (.int .i64 0), .nils, (.int .i64 0), (.bool false), .nils, .nils, (.int .i64 0), (.int .i64 0), (.int .i64 0), (.int .i64 0), (.int .i64 0), (.int .i64 0), (.int .i64 0), (.int .i64 0), (.cplx .f64 0 0), (.str (ByteArray.mk #[])), (.int .i64 0), (.int .i64 0), .nils, (.int .i64 0), (.int .i64 0), .nils, .nils] 0 cs63)[16]?).bind fun x76 =>
 (L.asInt .i64 (splice [(.int .i64 0), (.int .i64 0), (.int .i64 0), (.int .i64 0), (.int .i64 0), (.int .i64 0), (.int .i64 0), .nils, (.int .i64 0), (.bool false), .nils, .nils, (.int .i64 0), (.int .i64 0), (.int .i64 0), (.int .i64 0), (.int .i64 0), (.int .i64 0), (.int .i64 0), (.int .i64 0), (.cplx .f64 0 0), (.str (ByteArray.mk #[])), (.int .i64 0), (.int .i64 0), .nils, (.int .i64 0), (.int .i64 0), .nils, .nils] 0 cs63)[17]?).bind fun x77 =>
 (L.asInt .i64 (splice [(.int .i64 0), (.int .i64 0), (.int .i64 0), (.int .i64 0), (.int .i64 0), (.int .i64 0), (.int .i64 0), .nils, (.int .i64 0), (.bool false), .nils, .nils, (.int .i64 0), (.int .i64 0), (.int .i64 0), (.int .i64 0), (.int .i64 0), (.int .i64 0), (.int .i64 0), (.int .i64 0), (.cplx .f64 0 0), (.str (ByteArray.mk #[])), (.int .i64 0), (.int .i64 0), .nils, (.int .i64 0), (.int .i64 0), .nils, .nils] 0 cs63)[18]?).bind fun x78 =>
 (L.asInt .i64 (splice [(.int .i64 0), (.int .i64 0), (.int .i64 0), (.int .i64 0), (.int .i64 0), (.int .i64 0), (.int .i64 0), .nils, (.int .i64 0), (.bool false), .nils, .nils, (.int .i64 0), (.int .i64 0), (.int .i64 0), (.int .i64 0), (.int .i64 0), (.int .i64 0), (.int .i64 0), (.int .i64 0), (.cplx .f64 0 0), (.str (ByteArray.mk #[])), (.int .i64 0), (.int .i64 0), .nils, (.int .i64 0), (.int .i64 0), .nils, .nils] 0 cs63)[19]?).bind fun x79 =>
 (L.asCplx .f64 (splice [(.int .i64 0), (.int .i64 0), (.int .i64 0), (.int .i64 0), (.int .i64 0), (.int .i64 0), (.int .i64 0), .nils, (.int .i64 0), (.bool false), .nils, .nils, (.int .i64 0), (.int .i64 0), (.int .i64 0), (.int .i64 0), (.int .i64 0), (.int .i64 0), (.int .i64 0), (.int .i64 0), (.cplx .f64 0 0), (.str (ByteArray.mk #[])), (.int .i64 0), (.int .i64 0), .nils, (.int .i64 0), (.int .i64 0), .nils, .nils] 0 cs63)[20]?).bind fun x80 =>
 (L.asStr (splice [(.int .i64 0), (.int .i64 0), (.int .i64 0), (.int .i64 0), (.int .i64 0), (.int .i64 0), (.int .i64 0), .nils, (.int .i64 0), (.bool false), .nils, .nils, (.int .i64 0), (.int .i64 0), (.int .i64 0), (.int .i64 0), (.int .i64 0), (.int .i64 0), (.int .i64 0), (.int .i64 0), (.cplx .f64 0 0), (.str (ByteArray.mk #[])), (.int .i64 0), (.int .i64 0), .nils, (.int .i64 0), (.int .i64 0), .nils, .nils] 0 cs63)[21]?).bind fun x81 =>
 (L.asInt .i64 (splice [(.int .i64 0), (.int .i64 0), (.int .i64 0), (.int .i64 0), (.int .i64 0), (.int .i64 0), (.int .i64 0), .nils, (.int .i64 0), (.bool false), .nils, .nils, (.int .i64 0), (.int .i64 0), (.int .i64 0), (.int .i64 0), (.int .i64 0), (.int .i64 0), (.int .i64 0), (.int .i64 0), (.cplx .f64 0 0), (.str (ByteArray.mk #[])), (.int .i64 0), (.int .i64 0), .nils, (.int .i64 0), (.int .i64 0), .nils, .nils] 0 cs63)[22]?).bind fun x82 =>
 (L.asInt .i64 (splice [(.int .i64 0), (.int .i64 0), (.int .i64 0), (.int .i64 0), (.int .i64 0), (.int .i64 0), (.int .i64 0), .nils, (.int .i64 0), (.bool false), .nils, .nils, (.int .i64 0), (.int .i64 0), (.int .i64 0), (.int .i64 0), (.int .i64 0), (.int .i64 0), (.int .i64 0), (.int .i64 0), (.cplx .f64 0 0), (.str (ByteArray.mk #[])), (.int .i64 0), (.int .i64 0), .nils, (.int .i64 0), (.int .i64 0), .nils, .nils] 0 cs63)[23]?).bind fun x83 =>
 ((splice [(.int .i64 0), (.int .i64 0), (.int .i64 0), (.int .i64 0), (.int .i64 0), (.int .i64 0), (.int .i64 0), .nils, (.int .i64 0), (.bool false), .nils, .nils, (.int .i64 0), (.int .i64 0), (.int .i64 0), (.int .i64 0), (.int .i64 0), (.int .i64 0), (.int .i64 0), (.int .i64 0), (.cplx .f64 0 0), (.str (ByteArray.mk #[])), (.int .i64 0), (.int .i64 0), .nils, (.int .i64 0), (.int .i64 0), .nils, .nils] 0 cs63)[24]?).bind fun x84 =>
 (L.asInt .i64 (splice [(.int .i64 0), (.int .i64 0), (.int .i64 0), (.int .i64 0), (.int .i64 0), (.int .i64 0), (.int .i64 0), .nils, (.int .i64 0), (.bool false), .nils, .nils, (.int .i64 0), (.int .i64 0), (.int .i64 0), (.int .i64 0), (.int .i64 0), (.int .i64 0), (.int .i64 0), (.int .i64 0), (.cplx .f64 0 0), (.str (ByteArray.mk #[])), (.int .i64 0), (.int .i64 0), .nils, (.int .i64 0), (.int .i64 0), .nils, .nils] 0 cs63)[25]?).bind fun x85 =>
 (L.asInt .i64 (splice [(.int .i64 0), (.int .i64 0), (.int .i64 0), (.int .i64 0), (.int .i64 0), (.int .i64 0), (.int .i64 0), .nils, (.int .i64 0), (.bool false), .nils, .nils, (.int .i64 0), (.int .i64 0), (.int .i64 0), (.int .i64 0), (.int .i64 0), (.int .i64 0), (.int .i64 0), (.int .i64 0), (.cplx .f64 0 0), (.str (ByteArray.mk #[])), (.int .i64 0), (.int .i64 0), .nils, (.int .i64 0), (.int .i64 0), .nils, .nils] 0 cs63)[26]?).bind fun x86 =>
 ((splice [(.int .i64 0), (.int .i64 0), (.int .i64 0), (.int .i64 0), (.int .i64 0), (.int .i64 0), (.int .i64 0), .nils, (.int .i64 0), (.bool false), .nils, .nils, (.int .i64 0), (.int .i64 0), (.int .i64 0), (.int .i64 0), (.int .i64 0), (.int .i64 0), (.int .i64 0), (.int .i64 0), (.cplx .f64 0 0), (.str (ByteArray.mk #[])), (.int .i64 0), (.int .i64 0), .nils, (.int .i64 0), (.int .i64 0), .nils, .nils] 0 cs63)[27]?).bind fun x87 =>
 (F274 N (x69, x70, x71, x72, x73, x74, x75, x76, x77, x78, x79, (x80.1, x80.2), x81, x82, x83, x84, x85, x86, x87, h68)).bind fun (x88, x89, x90, x91, x92, x93, x94, x95, x96, x97, x98, x99, x100, x101, x102, x103, x104, x105, x106, h107) =>
 (ck1 x65).bind fun _ =>
 (if 7 + 1 ≤ ((splice [(.int .i64 0), (.int .i64 0), (.int .i64 0), (.int .i64 0), (.int .i64 0), (.int .i64 0), (.int .i64 0), .nils, (.int .i64 0), (.bool false), .nils, .nils, (.int .i64 0), (.int .i64 0), (.int .i64 0), (.int .i64 0), (.int .i64 0), (.int .i64 0), (.int .i64 0), (.int .i64 0), (.cplx .f64 0 0), (.str (ByteArray.mk #[])), (.int .i64 0), (.int .i64 0), .nils, (.int .i64 0), (.int .i64 0), .nils, .nils] 0 cs63)).length then (
 (ck1 x67).bind fun _ =>
 (if 28 + 1 ≤ ((splice (splice [(.int .i64 0), (.int .i64 0), (.int .i64 0), (.int .i64 0), (.int .i64 0), (.int .i64 0), (.int .i64 0), .nils, (.int .i64 0), (.bool false), .nils, .nils, (.int .i64 0), (.int .i64 0), (.int .i64 0), (.int .i64 0), (.int .i64 0), (.int .i64 0), (.int .i64 0), (.int .i64 0), (.cplx .f64 0 0), (.str (ByteArray.mk #[])), (.int .i64 0), (.int .i64 0), .nils, (.int .i64 0), (.int .i64 0), .nils, .nils] 0 cs63) 7 [x65])).length then (
 (if 9 + 19 ≤ ((splice (splice (splice [(.int .i64 0), (.int .i64 0), (.int .i64 0), (.int .i64 0), (.int .i64 0), (.int .i64 0), (.int .i64 0), .nils, (.int .i64 0), (.bool false), .nils, .nils, (.int .i64 0), (.int .i64 0), (.int .i64 0), (.int .i64 0), (.int .i64 0), (.int .i64 0), (.int .i64 0), (.int .i64 0), (.cplx .f64 0 0), (.str (ByteArray.mk #[])), (.int .i64 0), (.int .i64 0), .nils, (.int .i64 0), (.int .i64 0), .nils, .nils] 0 cs63) 7 [x65]) 28 [x67])).length then (
 ((if 0 + 29 ≤ ((splice (splice (splice (splice [(.int .i64 0), (.int .i64 0), (.int .i64 0), (.int .i64 0), (.int .i64 0), (.int .i64 0), (.int .i64 0), .nils, (.int .i64 0), (.bool false), .nils, .nils, (.int .i64 0), (.int .i64 0), (.int .i64 0), (.int .i64 0), (.int .i64 0), (.int .i64 0), (.int .i64 0), (.int .i64 0), (.cplx .f64 0 0), (.str (ByteArray.mk #[])), (.int .i64 0), (.int .i64 0), .nils, (.int .i64 0), (.int .i64 0), .nils, .nils] 0 cs63) 7 [x65]) 28 [x67]) 9 [(.bool x88), x89, x90, (.int .i64 x91), (.int .i64 x92), (.int .i64 x93), (.int .i64 x94), (.int .i64 x95), (.int .i64 x96), (.int .i64 x97), (.int .i64 x98), (.cplx .f64 x99.1 x99.2), (.str x100), (.int .i64 x101), (.int .i64 x102), x103, (.int .i64 x104), (.int .i64 x105), x106])).length then some ((((splice (splice (splice (splice [(.int .i64 0), (.int .i64 0), (.int .i64 0), (.int .i64 0), (.int .i64 0), (.int .i64 0), (.int .i64 0), .nils, (.int .i64 0), (.bool false), .nils, .nils, (.int .i64 0), (.int .i64 0), (.int .i64 0), (.int .i64 0), (.int .i64 0), (.int .i64 0), (.int .i64 0), (.int .i64 0), (.cplx .f64 0 0), (.str (ByteArray.mk #[])), (.int .i64 0), (.int .i64 0), .nils, (.int .i64 0), (.int .i64 0), .nils, .nils] 0 cs63) 7 [x65]) 28 [x67]) 9 [(.bool x88), x89, x90, (.int .i64 x91), (.int .i64 x92), (.int .i64 x93), (.int .i64 x94), (.int .i64 x95), (.int .i64 x96), (.int .i64 x97), (.int .i64 x98), (.cplx .f64 x99.1 x99.2), (.str x100), (.int .i64 x101), (.int .i64 x102), x103, (.int .i64 x104), (.int .i64 x105), x106])).drop 0).take 29) else none) : Option (List V)).bind fun cs108 =>
 (if (cs108).length = 29 then (
 (if 0 + (cs108).length ≤ 29 then (
 (scells h107 (.rs 29 (chunks 29 1 (splice [(.int .i64 0), (.int .i64 0), (.int .i64 0), (.int .i64 0), (.int .i64 0), (.int .i64 0), (.int .i64 0), .nils, (.int .i64 0), (.bool false), .nils, .nils, (.int .i64 0), (.int .i64 0), (.int .i64 0), (.int .i64 0), (.int .i64 0), (.int .i64 0), (.int .i64 0), (.int .i64 0), (.cplx .f64 0 0), (.str (ByteArray.mk #[])), (.int .i64 0), (.int .i64 0), .nils, (.int .i64 0), (.int .i64 0), .nils, .nils] 0 cs108))) 29).bind fun cs111 =>
 (happ h107 x57 29 (snlen (.rs 29 (chunks 29 1 (splice [(.int .i64 0), (.int .i64 0), (.int .i64 0), (.int .i64 0), (.int .i64 0), (.int .i64 0), (.int .i64 0), .nils, (.int .i64 0), (.bool false), .nils, .nils, (.int .i64 0), (.int .i64 0), (.int .i64 0), (.int .i64 0), (.int .i64 0), (.int .i64 0), (.int .i64 0), (.int .i64 0), (.cplx .f64 0 0), (.str (ByteArray.mk #[])), (.int .i64 0), (.int .i64 0), .nils, (.int .i64 0), (.int .i64 0), .nils, .nils] 0 cs108)))) cs111).bind fun (v109, h110) =>
 L214_0 N n (v109, x58, x59, (IntKind.i64.wrap (x60 + 1)), h110)) else none)) else none)) else none)) else none)) else none)) else none)) else none))
 else (
 some (x57, h61)))
def F214 (N : Nat) : V × H → Option (V × H)
 | (a0, h) =>
 (slen a0).bind fun n1 =>
 (L214_0 N N (.nils, a0, n1, 0, h)).bind fun (x112, h113) =>
 some (x112, h113)
abbrev ks214 : List SK := [.one .ref]
abbrev rs214 : List SK := [.one .ref]
def e214 (N : Nat) : Env := ⟨Tryz.prog, 30, inTab [5, 26], inTab [], natTab [(5, 5), (12, 5), (15, 5), (18, 5), (21, 5), (22, 5), (23, 5)], inTab [], calTab [(75, .ro (mkFun ks75 rs75 (F75 N))), (218, .gro (mkFun ks218 rs218 (locF true ks218 rs218 (F218 N)))), (274, .gro (mkFun ks274 rs274 (F274 N)))], altTab [], loopTab [(3, ⟨⟨.normal, [3, 6, 7, 8], [.one .ref, .one .ref, .one (.int .i64), .one (.int .i64)], [], []⟩, [⟨(.exit 0), [3], [.one .ref], [], []⟩], L214_0 N⟩)], natTab [], inTab []⟩
theorem l214_0 (N : Nat) : ∀ A, (e214 N).lp (lid (loopAt Tryz.f214 0)) = some A → LoopOk (e214 N) N (loopAt Tryz.f214 0) A :=
  loopOk_of (A := ⟨⟨.normal, [3, 6, 7, 8], [.one .ref, .one .ref, .one (.int .i64), .one (.int .i64)], [], []⟩, [⟨(.exit 0), [3], [.one .ref], [], []⟩], L214_0 N⟩) (by kernel_rfl) (fun _ => rfl) (fun _ _ => by kernel_rfl)
theorem fine214 (N : Nat) : Fine (e214 N) N 214 Tryz.f214 ks214 rs214 (F214 N) :=
  ⟨Tryz.func214, by kernel_rfl, by kernel_rfl, by kernel_rfl, loops_of ⟨l214_0 N, trivial⟩, by kernel_rfl, by kernel_rfl, fun _ => by kernel_rfl⟩
theorem good214 (N : Nat) : Go.L.Good (e214 N) := good_of ⟨gd75 N, ⟨gl218 N, ⟨gdg274 N, trivial⟩⟩⟩
theorem gd214 (N : Nat) : CalOk Tryz.prog 214 (.full (mkFun ks214 rs214 (F214 N))) := mkFun_good (fine214 N) (good214 N)

/-! ### 148: node.Node).Dones -/
def F148 (N : Nat) : V × H → Option (V × H)
 | (a0, h) =>
 (F213 N (a0, h)).bind fun (x1, _) =>
 (if (!x1) = true then (
 none)
 else (
 (nck a0).bind fun _ =>
 ((rd h (padd a0 11) 0)).bind fun x2 =>
 (F214 N (x2, h)).bind fun (x3, h4) =>
 some (x3, h4)))
abbrev ks148 : List SK := [.one .ref]
abbrev rs148 : List SK := [.one .ref]
def e148 (N : Nat) : Env := ⟨Tryz.prog, 11, inTab [], inTab [], natTab [], inTab [], calTab [(213, .ro (mkFun ks213 rs213 (F213 N))), (214, .full (mkFun ks214 rs214 (F214 N)))], altTab [], loopTab [], natTab [], inTab [2]⟩
theorem fine148 (N : Nat) : Fine (e148 N) N 148 Tryz.f148 ks148 rs148 (F148 N) :=
  ⟨Tryz.func148, by kernel_rfl, by kernel_rfl, by kernel_rfl, loops_of trivial, by kernel_rfl, by kernel_rfl, fun _ => by kernel_rfl⟩
theorem good148 (N : Nat) : Go.L.Good (e148 N) := good_of ⟨gd213 N, ⟨gd214 N, trivial⟩⟩
theorem gd148 (N : Nat) : CalOk Tryz.prog 148 (.full (mkFun ks148 rs148 (F148 N))) := mkFun_good (fine148 N) (good148 N)
theorem gl148 (N : Nat) : CalOk Tryz.prog 148 (.gro (mkFun ks148 rs148 (locF true ks148 rs148 (F148 N)))) := loc_gro (gd148 N)

/-! ### 278: api.Term] -/
def L278_0 (N : Nat) : Nat → Int × Int × H → Option (H)
 | 0, _ => none
 | n + 1, (x7, x8, h9) =>
 (if (decide (x8 < x7)) = true then (
 none)
 else (
 some h9))
def F278 (N : Nat) : V × V × V × H → Option (Bool × H)
 | (a0, a1, a2, h) =>
 (slen a0).bind fun n1 =>
 (slen a1).bind fun n2 =>
 (if (n1 != n2) = true then (
 none)
 else (
 (slen a0).bind fun n3 =>
 (L278_0 N N (n3, 0, h)).bind fun h10 =>
 some (true, h10)))
abbrev ks278 : List SK := [.one .ref, .one .ref, .one .ref]
abbrev rs278 : List SK := [.one .bool]
def e278 (N : Nat) : Env := ⟨Tryz.prog, 32, inTab [8, 9], inTab [], natTab [(8, 8), (9, 9)], inTab [], calTab [], altTab [], loopTab [(4, ⟨⟨.normal, [16, 17], [.one (.int .i64), .one (.int .i64)], [], []⟩, [⟨(.exit 0), [], [], [], []⟩], L278_0 N⟩)], natTab [], inTab [2, 5, 6, 7, 8, 9]⟩
theorem l278_0 (N : Nat) : ∀ A, (e278 N).lp (lid (loopAt Tryz.f278 0)) = some A → LoopOk (e278 N) N (loopAt Tryz.f278 0) A :=
  loopOk_of (A := ⟨⟨.normal, [16, 17], [.one (.int .i64), .one (.int .i64)], [], []⟩, [⟨(.exit 0), [], [], [], []⟩], L278_0 N⟩) (by kernel_rfl) (fun _ => rfl) (fun _ _ => by kernel_rfl)
theorem fine278 (N : Nat) : Fine (e278 N) N 278 Tryz.f278 ks278 rs278 (F278 N) :=
  ⟨Tryz.func278, by kernel_rfl, by kernel_rfl, by kernel_rfl, loops_of ⟨l278_0 N, trivial⟩, by kernel_rfl, by kernel_rfl, fun _ => by kernel_rfl⟩
theorem good278 (N : Nat) : Go.L.Good (e278 N) := good_of trivial
theorem gd278 (N : Nat) : CalOk Tryz.prog 278 (.ro (mkFun ks278 rs278 (F278 N))) := mkFun_ro (fine278 N) (good278 N) (by kernel_rfl)

/-! ### 215: fair.terms -/
def F215 (N : Nat) : V × V × H → Option (Bool × H)
 | (a0, a1, h) =>
 (F278 N (a0, a1, (.fn 279 []), h)).bind fun (x1, _) =>
 some (x1, h)
abbrev ks215 : List SK := [.one .ref, .one .ref]
abbrev rs215 : List SK := [.one .bool]
def e215 (N : Nat) : Env := ⟨Tryz.prog, 8, inTab [], inTab [], natTab [], inTab [], calTab [(278, .ro (mkFun ks278 rs278 (F278 N)))], altTab [], loopTab [], natTab [], inTab []⟩
theorem fine215 (N : Nat) : Fine (e215 N) N 215 Tryz.f215 ks215 rs215 (F215 N) :=
  ⟨Tryz.func215, by kernel_rfl, by kernel_rfl, by kernel_rfl, loops_of trivial, by kernel_rfl, by kernel_rfl, fun _ => by kernel_rfl⟩
theorem good215 (N : Nat) : Go.L.Good (e215 N) := good_of ⟨gd278 N, trivial⟩
theorem gd215 (N : Nat) : CalOk Tryz.prog 215 (.ro (mkFun ks215 rs215 (F215 N))) := mkFun_ro (fine215 N) (good215 N) (by kernel_rfl)

/-! ### 279: fair.term -/
def F279 (N : Nat) : Int × Int × (Nat × Nat) × ByteArray × Int × Int × V × Int × Int × (Nat × Nat) × ByteArray × Int × Int × V × H → Option (Bool × H)
 | (a0_0, a0_1, a0_2, a0_3, a0_4, a0_5, a0_6, a1_0, a1_1, a1_2, a1_3, a1_4, a1_5, a1_6, h) =>
 (if (a0_0 == a1_0) = true then (
 some ((a0_1 == a1_1), h))
 else (
 some (false, h))).bind fun (b1, h2) =>
 (if b1 = true then (
 some ((Op.floatEq .f64 a0_2.1 a1_2.1 && Op.floatEq .f64 a0_2.2 a1_2.2), h2))
 else (
 some (false, h2))).bind fun (b3, h4) =>
 (if b3 = true then (
 some (((a0_3).toList == (a1_3).toList), h4))
 else (
 some (false, h4))).bind fun (b5, h6) =>
 (if b5 = true then (
 some (((a0_4 == a1_4) && ((a0_5 == a1_5) && true)), h6))
 else (
 some (false, h6))).bind fun (b7, h8) =>
 (if b7 = true then (
 (F215 N (a0_6, a1_6, h8)).bind fun (x11, _) =>
 some (x11, h8))
 else (
 some (false, h8))).bind fun (b9, h10) =>
 some (b9, h10)
abbrev ks279 : List SK := [.agg [(.int .i64), (.int .i64), (.cplx .f64), .str, (.int .i64), (.int .i64), .ref], .agg [(.int .i64), (.int .i64), (.cplx .f64), .str, (.int .i64), (.int .i64), .ref]]
abbrev rs279 : List SK := [.one .bool]
def e279 (N : Nat) : Env := ⟨Tryz.prog, 45, inTab [2, 3], inTab [], natTab [(2, 2), (3, 3), (5, 2), (7, 3), (11, 2), (13, 3), (18, 2), (20, 3), (25, 2), (27, 3), (32, 2), (34, 3), (39, 2), (41, 3)], inTab [], calTab [(215, .ro (mkFun ks215 rs215 (F215 N)))], altTab [], loopTab [], natTab [], inTab []⟩
theorem fine279 (N : Nat) : Fine (e279 N) N 279 Tryz.f279 ks279 rs279 (F279 N) :=
  ⟨Tryz.func279, by kernel_rfl, by kernel_rfl, by kernel_rfl, loops_of trivial, by kernel_rfl, by kernel_rfl, fun _ => by kernel_rfl⟩
theorem good279 (N : Nat) : Go.L.Good (e279 N) := good_of ⟨gd215 N, trivial⟩
theorem gd279 (N : Nat) : CalOk Tryz.prog 279 (.ro (mkFun ks279 rs279 (F279 N))) := mkFun_ro (fine279 N) (good279 N) (by kernel_rfl)

/-! ### 463: api.Arm] -/
def L463_0 (N : Nat) : Nat → Int × Int × H → Option (H)
 | 0, _ => none
 | n + 1, (x7, x8, h9) =>
 (if (decide (x8 < x7)) = true then (
 none)
 else (
 some h9))
def F463 (N : Nat) : V × V × V × H → Option (Bool × H)
 | (a0, a1, a2, h) =>
 (slen a0).bind fun n1 =>
 (slen a1).bind fun n2 =>
 (if (n1 != n2) = true then (
 none)
 else (
 (slen a0).bind fun n3 =>
 (L463_0 N N (n3, 0, h)).bind fun h10 =>
 some (true, h10)))
abbrev ks463 : List SK := [.one .ref, .one .ref, .one .ref]
abbrev rs463 : List SK := [.one .bool]
def e463 (N : Nat) : Env := ⟨Tryz.prog, 32, inTab [8, 9], inTab [], natTab [(8, 8), (9, 9)], inTab [], calTab [], altTab [], loopTab [(4, ⟨⟨.normal, [16, 17], [.one (.int .i64), .one (.int .i64)], [], []⟩, [⟨(.exit 0), [], [], [], []⟩], L463_0 N⟩)], natTab [], inTab [2, 5, 6, 7, 8, 9]⟩
theorem l463_0 (N : Nat) : ∀ A, (e463 N).lp (lid (loopAt Tryz.f463 0)) = some A → LoopOk (e463 N) N (loopAt Tryz.f463 0) A :=
  loopOk_of (A := ⟨⟨.normal, [16, 17], [.one (.int .i64), .one (.int .i64)], [], []⟩, [⟨(.exit 0), [], [], [], []⟩], L463_0 N⟩) (by kernel_rfl) (fun _ => rfl) (fun _ _ => by kernel_rfl)
theorem fine463 (N : Nat) : Fine (e463 N) N 463 Tryz.f463 ks463 rs463 (F463 N) :=
  ⟨Tryz.func463, by kernel_rfl, by kernel_rfl, by kernel_rfl, loops_of ⟨l463_0 N, trivial⟩, by kernel_rfl, by kernel_rfl, fun _ => by kernel_rfl⟩
theorem good463 (N : Nat) : Go.L.Good (e463 N) := good_of trivial
theorem gd463 (N : Nat) : CalOk Tryz.prog 463 (.ro (mkFun ks463 rs463 (F463 N))) := mkFun_ro (fine463 N) (good463 N) (by kernel_rfl)

/-! ### 372: fair.instrs -/
def F372 (N : Nat) : Int × Int × Int × Int × Int × (Nat × Nat) × ByteArray × Int × Int × V × V × Int × Int × Int × Int × Int × (Nat × Nat) × ByteArray × Int × Int × V × V × H → Option (Bool × H)
 | (a0_0, a0_1, a0_2, a0_3, a0_4, a0_5, a0_6, a0_7, a0_8, a0_9, a0_10, a1_0, a1_1, a1_2, a1_3, a1_4, a1_5, a1_6, a1_7, a1_8, a1_9, a1_10, h) =>
 (if (a0_0 == a1_0) = true then (
 some ((a0_1 == a1_1), h))
 else (
 some (false, h))).bind fun (b1, h2) =>
 (if b1 = true then (
 some ((a0_2 == a1_2), h2))
 else (
 some (false, h2))).bind fun (b3, h4) =>
 (if b3 = true then (
 (F279 N (a0_3, a0_4, (a0_5.1, a0_5.2), a0_6, a0_7, a0_8, a0_9, a1_3, a1_4, (a1_5.1, a1_5.2), a1_6, a1_7, a1_8, a1_9, h4)).bind fun (x7, _) =>
 some (x7, h4))
 else (
 some (false, h4))).bind fun (b5, h6) =>
 (if b5 = true then (
 (F463 N (a0_10, a1_10, (.fn 464 []), h6)).bind fun (x10, _) =>
 some (x10, h6))
 else (
 some (false, h6))).bind fun (b8, h9) =>
 some (b8, h9)
abbrev ks372 : List SK := [.agg [(.int .i64), (.int .i64), (.int .i64), (.int .i64), (.int .i64), (.cplx .f64), .str, (.int .i64), (.int .i64), .ref, .ref], .agg [(.int .i64), (.int .i64), (.int .i64), (.int .i64), (.int .i64), (.cplx .f64), .str, (.int .i64), (.int .i64), .ref, .ref]]
abbrev rs372 : List SK := [.one .bool]
def e372 (N : Nat) : Env := ⟨Tryz.prog, 38, inTab [2, 3], inTab [], natTab [(2, 2), (3, 3), (5, 2), (7, 3), (11, 2), (13, 3), (18, 2), (20, 3), (25, 2), (27, 3), (32, 2), (34, 3)], inTab [], calTab [(279, .ro (mkFun ks279 rs279 (F279 N))), (463, .ro (mkFun ks463 rs463 (F463 N)))], altTab [], loopTab [], natTab [], inTab []⟩
theorem fine372 (N : Nat) : Fine (e372 N) N 372 Tryz.f372 ks372 rs372 (F372 N) :=
  ⟨Tryz.func372, by kernel_rfl, by kernel_rfl, by kernel_rfl, loops_of trivial, by kernel_rfl, by kernel_rfl, fun _ => by kernel_rfl⟩
theorem good372 (N : Nat) : Go.L.Good (e372 N) := good_of ⟨gd279 N, ⟨gd463 N, trivial⟩⟩
theorem gd372 (N : Nat) : CalOk Tryz.prog 372 (.ro (mkFun ks372 rs372 (F372 N))) := mkFun_ro (fine372 N) (good372 N) (by kernel_rfl)

/-! ### 371: api.Instr] -/
abbrev rs371_29 : List SK := [.one .bool]
def D371_29 (N : Nat) : List (Nat × (List V → H → Option (Tup rs371_29 H))) := [(372, (mkFun ks372 rs372 (F372 N)).F)]
theorem dg371_29 (N : Nat) : CalOk Tryz.prog 16777245 (.dyn (dynF rs371_29 (D371_29 N))) := dyn_good ⟨mkFun_good (fine372 N) (good372 N), trivial⟩
def L371_0 (N : Nat) : Nat → V × V × V × Int × Int × H → Option (H)
 | 0, _ => none
 | n + 1, (x36, x37, x38, x39, x40, h41) =>
 (if (decide (x40 < x39)) = true then (
 (sidx x38 x40 11).bind fun q42 =>
 (L.asInt .i64 (rd h41 q42 0)).bind fun x43 =>
 (L.asInt .i64 (rd h41 q42 1)).bind fun x44 =>
 (L.asInt .i64 (rd h41 q42 2)).bind fun x45 =>
 (L.asInt .i64 (rd h41 q42 3)).bind fun x46 =>
 (L.asInt .i64 (rd h41 q42 4)).bind fun x47 =>
 (L.asCplx .f64 (rd h41 q42 5)).bind fun x48 =>
 (L.asStr (rd h41 q42 6)).bind fun x49 =>
 (L.asInt .i64 (rd h41 q42 7)).bind fun x50 =>
 (L.asInt .i64 (rd h41 q42 8)).bind fun x51 =>
 ((rd h41 q42 9)).bind fun x52 =>
 ((rd h41 q42 10)).bind fun x53 =>
 (sidx x36 x40 11).bind fun q54 =>
 (L.asInt .i64 (rd h41 q54 0)).bind fun x55 =>
 (L.asInt .i64 (rd h41 q54 1)).bind fun x56 =>
 (L.asInt .i64 (rd h41 q54 2)).bind fun x57 =>
 (L.asInt .i64 (rd h41 q54 3)).bind fun x58 =>
 (L.asInt .i64 (rd h41 q54 4)).bind fun x59 =>
 (L.asCplx .f64 (rd h41 q54 5)).bind fun x60 =>
 (L.asStr (rd h41 q54 6)).bind fun x61 =>
 (L.asInt .i64 (rd h41 q54 7)).bind fun x62 =>
 (L.asInt .i64 (rd h41 q54 8)).bind fun x63 =>
 ((rd h41 q54 9)).bind fun x64 =>
 ((rd h41 q54 10)).bind fun x65 =>
 Option.bind (α := Bool × H) (dynC rs371_29 (D371_29 N) x37 [(.agg [(.int .i64 x43), (.int .i64 x44), (.int .i64 x45), (.int .i64 x46), (.int .i64 x47), (.cplx .f64 x48.1 x48.2), (.str x49), (.int .i64 x50), (.int .i64 x51), x52, x53]), (.agg [(.int .i64 x55), (.int .i64 x56), (.int .i64 x57), (.int .i64 x58), (.int .i64 x59), (.cplx .f64 x60.1 x60.2), (.str x61), (.int .i64 x62), (.int .i64 x63), x64, x65])] h41) fun (x66, h67) =>
 (if (!x66) = true then (
 none)
 else (
 L371_0 N n (x36, x37, x38, x39, (IntKind.i64.wrap (x40 + 1)), h67))))
 else (
 some h41))
def F371 (N : Nat) : V × V × V × H → Option (Bool × H)
 | (a0, a1, a2, h) =>
 (slen a0).bind fun n1 =>
 (slen a1).bind fun n2 =>
 (if (n1 != n2) = true then (
 none)
 else (
 (slen a0).bind fun n3 =>
 (L371_0 N N (a1, a2, a0, n3, 0, h)).bind fun h68 =>
 some (true, h68)))
abbrev ks371 : List SK := [.one .ref, .one .ref, .one .ref]
abbrev rs371 : List SK := [.one .bool]
def e371 (N : Nat) : Env := ⟨Tryz.prog, 32, inTab [8, 9], inTab [], natTab [(8, 8), (9, 9)], inTab [], calTab [(16777245, .dyn (dynF rs371_29 (D371_29 N)))], altTab [], loopTab [(4, ⟨⟨.normal, [1, 2, 15, 16, 17], [.one .ref, .one .ref, .one .ref, .one (.int .i64), .one (.int .i64)], [], []⟩, [⟨(.exit 0), [], [], [], []⟩], L371_0 N⟩)], natTab [], inTab [2, 8]⟩
theorem l371_0 (N : Nat) : ∀ A, (e371 N).lp (lid (loopAt Tryz.f371 0)) = some A → LoopOk (e371 N) N (loopAt Tryz.f371 0) A :=
  loopOk_of (A := ⟨⟨.normal, [1, 2, 15, 16, 17], [.one .ref, .one .ref, .one .ref, .one (.int .i64), .one (.int .i64)], [], []⟩, [⟨(.exit 0), [], [], [], []⟩], L371_0 N⟩) (by kernel_rfl) (fun _ => rfl) (fun _ _ => by kernel_rfl)
theorem fine371 (N : Nat) : Fine (e371 N) N 371 Tryz.f371 ks371 rs371 (F371 N) :=
  ⟨Tryz.func371, by kernel_rfl, by kernel_rfl, by kernel_rfl, loops_of ⟨l371_0 N, trivial⟩, by kernel_rfl, by kernel_rfl, fun _ => by kernel_rfl⟩
theorem good371 (N : Nat) : Go.L.Good (e371 N) := good_of ⟨dg371_29 N, trivial⟩
theorem gd371 (N : Nat) : CalOk Tryz.prog 371 (.full (mkFun ks371 rs371 (F371 N))) := mkFun_good (fine371 N) (good371 N)

/-! ### 283: fair.funcs -/
def F283 (N : Nat) : ByteArray × Int × Int × V × ByteArray × Int × Int × V × H → Option (Bool × H)
 | (a0_0, a0_1, a0_2, a0_3, a1_0, a1_1, a1_2, a1_3, h) =>
 (if ((a0_0).toList == (a1_0).toList) = true then (
 some ((a0_1 == a1_1), h))
 else (
 some (false, h))).bind fun (b1, h2) =>
 (if b1 = true then (
 some ((a0_2 == a1_2), h2))
 else (
 some (false, h2))).bind fun (b3, h4) =>
 (if b3 = true then (
 (F371 N (a0_3, a1_3, (.fn 372 []), h4)).bind fun (x7, h8) =>
 some (x7, h8))
 else (
 some (false, h4))).bind fun (b5, h6) =>
 some (b5, h6)
abbrev ks283 : List SK := [.agg [.str, (.int .i64), (.int .i64), .ref], .agg [.str, (.int .i64), (.int .i64), .ref]]
abbrev rs283 : List SK := [.one .bool]
def e283 (N : Nat) : Env := ⟨Tryz.prog, 31, inTab [2, 3], inTab [], natTab [(2, 2), (3, 3), (5, 2), (7, 3), (11, 2), (13, 3), (18, 2), (20, 3), (25, 2), (27, 3)], inTab [], calTab [(371, .full (mkFun ks371 rs371 (F371 N)))], altTab [], loopTab [], natTab [], inTab []⟩
theorem fine283 (N : Nat) : Fine (e283 N) N 283 Tryz.f283 ks283 rs283 (F283 N) :=
  ⟨Tryz.func283, by kernel_rfl, by kernel_rfl, by kernel_rfl, loops_of trivial, by kernel_rfl, by kernel_rfl, fun _ => by kernel_rfl⟩
theorem good283 (N : Nat) : Go.L.Good (e283 N) := good_of ⟨gd371 N, trivial⟩
theorem gd283 (N : Nat) : CalOk Tryz.prog 283 (.full (mkFun ks283 rs283 (F283 N))) := mkFun_good (fine283 N) (good283 N)

/-! ### 282: api.Func] -/
abbrev rs282_29 : List SK := [.one .bool]
def D282_29 (N : Nat) : List (Nat × (List V → H → Option (Tup rs282_29 H))) := [(283, (mkFun ks283 rs283 (F283 N)).F)]
theorem dg282_29 (N : Nat) : CalOk Tryz.prog 16777245 (.dyn (dynF rs282_29 (D282_29 N))) := dyn_good ⟨mkFun_good (fine283 N) (good283 N), trivial⟩
def L282_0 (N : Nat) : Nat → V × V × V × Int × Int × H → Option (H)
 | 0, _ => none
 | n + 1, (x22, x23, x24, x25, x26, h27) =>
 (if (decide (x26 < x25)) = true then (
 (sidx x24 x26 4).bind fun q28 =>
 (L.asStr (rd h27 q28 0)).bind fun x29 =>
 (L.asInt .i64 (rd h27 q28 1)).bind fun x30 =>
 (L.asInt .i64 (rd h27 q28 2)).bind fun x31 =>
 ((rd h27 q28 3)).bind fun x32 =>
 (sidx x22 x26 4).bind fun q33 =>
 (L.asStr (rd h27 q33 0)).bind fun x34 =>
 (L.asInt .i64 (rd h27 q33 1)).bind fun x35 =>
 (L.asInt .i64 (rd h27 q33 2)).bind fun x36 =>
 ((rd h27 q33 3)).bind fun x37 =>
 Option.bind (α := Bool × H) (dynC rs282_29 (D282_29 N) x23 [(.agg [(.str x29), (.int .i64 x30), (.int .i64 x31), x32]), (.agg [(.str x34), (.int .i64 x35), (.int .i64 x36), x37])] h27) fun (x38, h39) =>
 (if (!x38) = true then (
 none)
 else (
 L282_0 N n (x22, x23, x24, x25, (IntKind.i64.wrap (x26 + 1)), h39))))
 else (
 some h27))
def F282 (N : Nat) : V × V × V × H → Option (Bool × H)
 | (a0, a1, a2, h) =>
 (slen a0).bind fun n1 =>
 (slen a1).bind fun n2 =>
 (if (n1 != n2) = true then (
 none)
 else (
 (slen a0).bind fun n3 =>
 (L282_0 N N (a1, a2, a0, n3, 0, h)).bind fun h40 =>
 some (true, h40)))
abbrev ks282 : List SK := [.one .ref, .one .ref, .one .ref]
abbrev rs282 : List SK := [.one .bool]
def e282 (N : Nat) : Env := ⟨Tryz.prog, 32, inTab [8, 9], inTab [], natTab [(8, 8), (9, 9)], inTab [], calTab [(16777245, .dyn (dynF rs282_29 (D282_29 N)))], altTab [], loopTab [(4, ⟨⟨.normal, [1, 2, 15, 16, 17], [.one .ref, .one .ref, .one .ref, .one (.int .i64), .one (.int .i64)], [], []⟩, [⟨(.exit 0), [], [], [], []⟩], L282_0 N⟩)], natTab [], inTab [2, 8]⟩
theorem l282_0 (N : Nat) : ∀ A, (e282 N).lp (lid (loopAt Tryz.f282 0)) = some A → LoopOk (e282 N) N (loopAt Tryz.f282 0) A :=
  loopOk_of (A := ⟨⟨.normal, [1, 2, 15, 16, 17], [.one .ref, .one .ref, .one .ref, .one (.int .i64), .one (.int .i64)], [], []⟩, [⟨(.exit 0), [], [], [], []⟩], L282_0 N⟩) (by kernel_rfl) (fun _ => rfl) (fun _ _ => by kernel_rfl)
theorem fine282 (N : Nat) : Fine (e282 N) N 282 Tryz.f282 ks282 rs282 (F282 N) :=
  ⟨Tryz.func282, by kernel_rfl, by kernel_rfl, by kernel_rfl, loops_of ⟨l282_0 N, trivial⟩, by kernel_rfl, by kernel_rfl, fun _ => by kernel_rfl⟩
theorem good282 (N : Nat) : Go.L.Good (e282 N) := good_of ⟨dg282_29 N, trivial⟩
theorem gd282 (N : Nat) : CalOk Tryz.prog 282 (.full (mkFun ks282 rs282 (F282 N))) := mkFun_good (fine282 N) (good282 N)

/-! ### 281: fair.loads$1 -/
def F281 (N : Nat) : ByteArray × V × ByteArray × V × H → Option (Bool × H)
 | (a0_0, a0_1, a1_0, a1_1, h) =>
 (if ((a0_0).toList == (a1_0).toList) = true then (
 (F282 N (a0_1, a1_1, (.fn 283 []), h)).bind fun (x3, h4) =>
 some (x3, h4))
 else (
 some (false, h))).bind fun (b1, h2) =>
 some (b1, h2)
abbrev ks281 : List SK := [.agg [.str, .ref], .agg [.str, .ref]]
abbrev rs281 : List SK := [.one .bool]
def e281 (N : Nat) : Env := ⟨Tryz.prog, 17, inTab [2, 3], inTab [], natTab [(2, 2), (3, 3), (5, 2), (7, 3), (11, 2), (13, 3)], inTab [], calTab [(282, .full (mkFun ks282 rs282 (F282 N)))], altTab [], loopTab [], natTab [], inTab []⟩
theorem fine281 (N : Nat) : Fine (e281 N) N 281 Tryz.f281 ks281 rs281 (F281 N) :=
  ⟨Tryz.func281, by kernel_rfl, by kernel_rfl, by kernel_rfl, loops_of trivial, by kernel_rfl, by kernel_rfl, fun _ => by kernel_rfl⟩
theorem good281 (N : Nat) : Go.L.Good (e281 N) := good_of ⟨gd282 N, trivial⟩
theorem gd281 (N : Nat) : CalOk Tryz.prog 281 (.full (mkFun ks281 rs281 (F281 N))) := mkFun_good (fine281 N) (good281 N)

/-! ### 280: api.Module] -/
abbrev rs280_29 : List SK := [.one .bool]
def D280_29 (N : Nat) : List (Nat × (List V → H → Option (Tup rs280_29 H))) := [(281, (mkFun ks281 rs281 (F281 N)).F)]
theorem dg280_29 (N : Nat) : CalOk Tryz.prog 16777245 (.dyn (dynF rs280_29 (D280_29 N))) := dyn_good ⟨mkFun_good (fine281 N) (good281 N), trivial⟩
def L280_0 (N : Nat) : Nat → V × V × V × Int × Int × H → Option (H)
 | 0, _ => none
 | n + 1, (x18, x19, x20, x21, x22, h23) =>
 (if (decide (x22 < x21)) = true then (
 (sidx x20 x22 2).bind fun q24 =>
 (L.asStr (rd h23 q24 0)).bind fun x25 =>
 ((rd h23 q24 1)).bind fun x26 =>
 (sidx x18 x22 2).bind fun q27 =>
 (L.asStr (rd h23 q27 0)).bind fun x28 =>
 ((rd h23 q27 1)).bind fun x29 =>
 Option.bind (α := Bool × H) (dynC rs280_29 (D280_29 N) x19 [(.agg [(.str x25), x26]), (.agg [(.str x28), x29])] h23) fun (x30, h31) =>
 (if (!x30) = true then (
 none)
 else (
 L280_0 N n (x18, x19, x20, x21, (IntKind.i64.wrap (x22 + 1)), h31))))
 else (
 some h23))
def F280 (N : Nat) : V × V × V × H → Option (Bool × H)
 | (a0, a1, a2, h) =>
 (slen a0).bind fun n1 =>
 (slen a1).bind fun n2 =>
 (if (n1 != n2) = true then (
 none)
 else (
 (slen a0).bind fun n3 =>
 (L280_0 N N (a1, a2, a0, n3, 0, h)).bind fun h32 =>
 some (true, h32)))
abbrev ks280 : List SK := [.one .ref, .one .ref, .one .ref]
abbrev rs280 : List SK := [.one .bool]
def e280 (N : Nat) : Env := ⟨Tryz.prog, 32, inTab [8, 9], inTab [], natTab [(8, 8), (9, 9)], inTab [], calTab [(16777245, .dyn (dynF rs280_29 (D280_29 N)))], altTab [], loopTab [(4, ⟨⟨.normal, [1, 2, 15, 16, 17], [.one .ref, .one .ref, .one .ref, .one (.int .i64), .one (.int .i64)], [], []⟩, [⟨(.exit 0), [], [], [], []⟩], L280_0 N⟩)], natTab [], inTab [2, 8]⟩
theorem l280_0 (N : Nat) : ∀ A, (e280 N).lp (lid (loopAt Tryz.f280 0)) = some A → LoopOk (e280 N) N (loopAt Tryz.f280 0) A :=
  loopOk_of (A := ⟨⟨.normal, [1, 2, 15, 16, 17], [.one .ref, .one .ref, .one .ref, .one (.int .i64), .one (.int .i64)], [], []⟩, [⟨(.exit 0), [], [], [], []⟩], L280_0 N⟩) (by kernel_rfl) (fun _ => rfl) (fun _ _ => by kernel_rfl)
theorem fine280 (N : Nat) : Fine (e280 N) N 280 Tryz.f280 ks280 rs280 (F280 N) :=
  ⟨Tryz.func280, by kernel_rfl, by kernel_rfl, by kernel_rfl, loops_of ⟨l280_0 N, trivial⟩, by kernel_rfl, by kernel_rfl, fun _ => by kernel_rfl⟩
theorem good280 (N : Nat) : Go.L.Good (e280 N) := good_of ⟨dg280_29 N, trivial⟩
theorem gd280 (N : Nat) : CalOk Tryz.prog 280 (.full (mkFun ks280 rs280 (F280 N))) := mkFun_good (fine280 N) (good280 N)

/-! ### 216: fair.loads -/
def F216 (N : Nat) : V × V × H → Option (Bool × H)
 | (a0, a1, h) =>
 (F280 N (a0, a1, (.fn 281 []), h)).bind fun (x1, h2) =>
 some (x1, h2)
abbrev ks216 : List SK := [.one .ref, .one .ref]
abbrev rs216 : List SK := [.one .bool]
def e216 (N : Nat) : Env := ⟨Tryz.prog, 8, inTab [], inTab [], natTab [], inTab [], calTab [(280, .full (mkFun ks280 rs280 (F280 N)))], altTab [], loopTab [], natTab [], inTab []⟩
theorem fine216 (N : Nat) : Fine (e216 N) N 216 Tryz.f216 ks216 rs216 (F216 N) :=
  ⟨Tryz.func216, by kernel_rfl, by kernel_rfl, by kernel_rfl, loops_of trivial, by kernel_rfl, by kernel_rfl, fun _ => by kernel_rfl⟩
theorem good216 (N : Nat) : Go.L.Good (e216 N) := good_of ⟨gd280 N, trivial⟩
theorem gd216 (N : Nat) : CalOk Tryz.prog 216 (.full (mkFun ks216 rs216 (F216 N))) := mkFun_good (fine216 N) (good216 N)


end
end Go.Proofs.YtkhnngghmlpbeaaGreat
