/- The functions that the laws reach, as plain ones (printed by gen.py). -/
import Derived.Test.YtbpibiapjangmaaTabG
import Derived.Test.YtbpibiapjangmaaChecked
import Derived.KernelRfl
set_option linter.unusedVariables false
namespace Go.Proofs.Ytbpibiapjangmaa
open Go.L

/-! ### 59: carousellaw14.play).step -/
noncomputable def F59 (N : Nat) : V × Int × Int × Int × Int × Int × Int × Int × ByteArray × H → Option (Bool × H)
  | (a0, a1_0, a1_1, a1_2, a1_3, a1_4, a1_5, a1_6, a1_7, h) =>
    ((if (a1_0 == 1) = true then (
    (F23 N (a1_3, h)).bind fun (x1, x2, h3) =>
    (F31 N (a1_3, h3)).bind fun (x4, x5, x6, x7, x8, h9) =>
    (nck a0).bind fun _ =>
    (aidx (padd a0 0) (IntKind.i64.wrap (Int.tmod (IntKind.u64.wrap a1_1) 3)) 3 1).bind fun q10 =>
    (ck1 x1).bind fun _ =>
    (wr h9 q10 [x1]).bind fun h11 =>
    (nck a0).bind fun _ =>
    (aidx (padd a0 3) (IntKind.i64.wrap (Int.tmod (IntKind.u64.wrap a1_1) 3)) 3 4).bind fun q12 =>
    (wr h11 q12 [(.int .i64 x4), x5, x6, x7]).bind fun h13 =>
    (nck a0).bind fun _ =>
    (aidx (padd a0 15) (IntKind.i64.wrap (Int.tmod (IntKind.u64.wrap a1_1) 3)) 3 1).bind fun q14 =>
    (wr h13 q14 [(.bool (x8 == 0))]).bind fun h15 =>
    (if (x2 == x8) = true then (
    (isNil x1).bind fun b18 =>
    some (((!b18) == (x8 == 0)), h15))
    else (
    some (false, h15))).bind fun (b16, h17) =>
    some (.inr (b16, h17)))
    else (
    ((if (a1_0 == 2) = true then (
    some (a0, (IntKind.i64.wrap (Int.tmod (IntKind.u64.wrap a1_1) 3)), (IntKind.i64.wrap (Int.tmod (IntKind.u64.wrap a1_2) 3)), a1_0, (a1_0 == 2), a1_0, a1_1, a1_2, a1_3, a1_4, a1_5, a1_6, a1_7, h))
    else (
    (if (a1_0 == 3) = true then (
    some (a0, (IntKind.i64.wrap (Int.tmod (IntKind.u64.wrap a1_1) 3)), (IntKind.i64.wrap (Int.tmod (IntKind.u64.wrap a1_2) 3)), a1_0, (a1_0 == 3), a1_0, a1_1, a1_2, a1_3, a1_4, a1_5, a1_6, a1_7, h))
    else (
    (if (a1_0 == 4) = true then (
    some (a0, (IntKind.i64.wrap (Int.tmod (IntKind.u64.wrap a1_1) 3)), (IntKind.i64.wrap (Int.tmod (IntKind.u64.wrap a1_2) 3)), a1_0, (a1_0 == 4), a1_0, a1_1, a1_2, a1_3, a1_4, a1_5, a1_6, a1_7, h))
    else (
    some (a0, (IntKind.i64.wrap (Int.tmod (IntKind.u64.wrap a1_1) 3)), (IntKind.i64.wrap (Int.tmod (IntKind.u64.wrap a1_2) 3)), a1_0, (a1_0 == 5), a1_0, a1_1, a1_2, a1_3, a1_4, a1_5, a1_6, a1_7, h))))))) : Option (V × Int × Int × Int × Bool × Int × Int × Int × Int × Int × Int × Int × ByteArray × H)).bind fun (x19, x20, x21, x22, x23, x24, x25, x26, x27, x28, x29, x30, x31, h32) =>
    (if x23 = true then (
    (F75 N (x19, x20, x24, x25, x26, x27, x28, x29, x30, x31, h32)).bind fun (x33, h34) =>
    some (.inr (x33, h34)))
    else (
    (if (x22 == 6) = true then (
    (nck x19).bind fun _ =>
    (aidx (padd x19 0) x20 3 1).bind fun q35 =>
    ((rd h32 q35 0)).bind fun x36 =>
    (F76 N (x36, h32)).bind fun (x37, h38) =>
    (nck x19).bind fun _ =>
    (aidx (padd x19 0) x21 3 1).bind fun q39 =>
    (ck1 x37).bind fun _ =>
    (wr h38 q39 [x37]).bind fun h40 =>
    (nck x19).bind fun _ =>
    (aidx (padd x19 3) x20 3 4).bind fun q41 =>
    (L.asInt .i64 (rd h40 q41 0)).bind fun x42 =>
    ((rd h40 q41 1)).bind fun x43 =>
    ((rd h40 q41 2)).bind fun x44 =>
    ((rd h40 q41 3)).bind fun x45 =>
    (nck x19).bind fun _ =>
    (aidx (padd x19 3) x21 3 4).bind fun q46 =>
    (wr h40 q46 [(.int .i64 x42), x43, x44, x45]).bind fun h47 =>
    (nck x19).bind fun _ =>
    (aidx (padd x19 15) x20 3 1).bind fun q48 =>
    (L.asBool (rd h47 q48 0)).bind fun x49 =>
    (nck x19).bind fun _ =>
    (aidx (padd x19 15) x21 3 1).bind fun q50 =>
    (wr h47 q50 [(.bool x49)]).bind fun h51 =>
    (isNil x37).bind fun b52 =>
    (nck x19).bind fun _ =>
    (aidx (padd x19 15) x20 3 1).bind fun q53 =>
    (L.asBool (rd h51 q53 0)).bind fun x54 =>
    some (.inr (((!b52) == x54), h51)))
    else (
    (if (x22 == 7) = true then (
    (nck x19).bind fun _ =>
    (aidx (padd x19 15) x20 3 1).bind fun q55 =>
    (L.asBool (rd h32 q55 0)).bind fun x56 =>
    (if x56 = true then (
    (nck x19).bind fun _ =>
    (aidx (padd x19 0) x20 3 1).bind fun q57 =>
    ((rd h32 q57 0)).bind fun x58 =>
    (nck x19).bind fun _ =>
    (aidx (padd x19 0) x20 3 1).bind fun q59 =>
    ((rd h32 q59 0)).bind fun x60 =>
    (nck x19).bind fun _ =>
    (aidx (padd x19 3) x20 3 4).bind fun q61 =>
    (L.asInt .i64 (rd h32 q61 0)).bind fun x62 =>
    ((rd h32 q61 1)).bind fun x63 =>
    ((rd h32 q61 2)).bind fun x64 =>
    ((rd h32 q61 3)).bind fun x65 =>
    (F77 N (x58, h32)).bind fun (x66, h67) =>
    (F32 N (x60, h67)).bind fun (x68, h69) =>
    (F78 N (x62, x63, x64, x65, h69)).bind fun (x70, h71) =>
    (F53 N (x66, x68, x70, h71)).bind fun (x72, x73, h74) =>
    (nck x19).bind fun _ =>
    (aidx (padd x19 0) x21 3 1).bind fun q75 =>
    (ck1 x72).bind fun _ =>
    (wr h74 q75 [x72]).bind fun h76 =>
    (nck x19).bind fun _ =>
    (aidx (padd x19 3) x20 3 4).bind fun q77 =>
    (L.asInt .i64 (rd h76 q77 0)).bind fun x78 =>
    ((rd h76 q77 1)).bind fun x79 =>
    ((rd h76 q77 2)).bind fun x80 =>
    ((rd h76 q77 3)).bind fun x81 =>
    (nck x19).bind fun _ =>
    (aidx (padd x19 3) x21 3 4).bind fun q82 =>
    (wr h76 q82 [(.int .i64 x78), x79, x80, x81]).bind fun h83 =>
    (nck x19).bind fun _ =>
    (aidx (padd x19 15) x21 3 1).bind fun q84 =>
    (wr h83 q84 [(.bool true)]).bind fun h85 =>
    (if (x73 == 0) = true then (
    (isNil x72).bind fun b88 =>
    some ((!b88), h85))
    else (
    some (false, h85))).bind fun (b86, h87) =>
    some (.inr (b86, h87)))
    else (
    some (.inl h32))))
    else (
    (if (x22 == 8) = true then (
    (F60 N (x19, x20, h32)).bind fun (x89, h90) =>
    some (.inr (x89, h90)))
    else (
    some (.inl h32))))))))))) : Option ((H) ⊕ (Bool × H))).bind fun o91 => match o91 with
    | .inl h92 => (
    some (true, h92))
    | .inr (x93, h94) => (
    some (x93, h94))
abbrev ks59 : List SK := [.one .ref, .agg [(.int .i64), (.int .i64), (.int .i64), (.int .i64), (.int .i64), (.int .i64), (.int .i64), .str]]
abbrev rs59 : List SK := [.one .bool]
noncomputable def e59 (N : Nat) : Env := ⟨Try.prog, 190, inTab [3, 9], inTab [], natTab [(3, 3), (9, 9), (14, 3), (19, 3), (24, 3), (29, 3), (35, 3)], inTab [], calTab [(23, .full (mkFun ks23 rs23 (F23 N))), (31, .full (mkFun ks31 rs31 (F31 N))), (75, .full (mkFun ks75 rs75 (F75 N))), (76, .full (mkFun ks76 rs76 (F76 N))), (77, .gro (mkFun ks77 rs77 (F77 N))), (32, .gro (mkFun ks32 rs32 (F32 N))), (78, .full (mkFun ks78 rs78 (F78 N))), (53, .full (mkFun ks53 rs53 (F53 N))), (60, .full (mkFun ks60 rs60 (F60 N)))], altTab [(2684616730, [⟨.normal, [], [], [], []⟩, ⟨.ret, [4], [.one .bool], [], []⟩]), (2952790085, [⟨.normal, [0, 3, 5, 6, 25, 69], [.one .ref, .lp 3 0, .one (.int .i64), .one (.int .i64), .one (.int .i64), .one .bool], [3], [.cells [(.int .i64), (.int .i64), (.int .i64), (.int .i64), (.int .i64), (.int .i64), (.int .i64), .str]]⟩])], loopTab [], natTab []⟩
theorem fine59 (N : Nat) : Fine (e59 N) N 59 Try.f59 ks59 rs59 (F59 N) :=
  ⟨Try.func59, by kernel_rfl, by kernel_rfl, by kernel_rfl, loops_of trivial, by kernel_rfl, by kernel_rfl, fun _ => by kernel_rfl⟩
theorem good59 (N : Nat) : Go.L.Good (e59 N) := good_of ⟨gd23 N, ⟨gd31 N, ⟨gd75 N, ⟨gd76 N, ⟨gdg77 N, ⟨gdg32 N, ⟨gd78 N, ⟨gd53 N, ⟨gd60 N, trivial⟩⟩⟩⟩⟩⟩⟩⟩⟩
theorem gd59 (N : Nat) : CalOk Try.prog 59 (.full (mkFun ks59 rs59 (F59 N))) := mkFun_good (fine59 N) (good59 N)

/-! ### 12: carousellaw14.TablePlays -/
noncomputable def L12_0 (N : Nat) : Nat → V × V × Int × H → Option ((V × H) ⊕ (Bool × H))
  | 0, _ => none
  | n + 1, (x18, x19, x20, h21) =>
    (slen x18).bind fun n22 =>
    (if (decide (x20 < n22)) = true then (
    (sidx x18 x20 8).bind fun q23 =>
    (L.asInt .i64 (rd h21 q23 0)).bind fun x24 =>
    (L.asInt .i64 (rd h21 q23 1)).bind fun x25 =>
    (L.asInt .i64 (rd h21 q23 2)).bind fun x26 =>
    (L.asInt .i64 (rd h21 q23 3)).bind fun x27 =>
    (L.asInt .i64 (rd h21 q23 4)).bind fun x28 =>
    (L.asInt .i64 (rd h21 q23 5)).bind fun x29 =>
    (L.asInt .i64 (rd h21 q23 6)).bind fun x30 =>
    (L.asStr (rd h21 q23 7)).bind fun x31 =>
    (F59 N (x19, x24, x25, x26, x27, x28, x29, x30, x31, h21)).bind fun (x32, h33) =>
    (if (!x32) = true then (
    some (.inr (false, h33)))
    else (
    L12_0 N n (x18, x19, (IntKind.i64.wrap (x20 + 1)), h33))))
    else (
    some (.inl (x19, h21))))
noncomputable def F12 (N : Nat) : V × H → Option (Bool × H)
  | (a0, h) =>
    (some (h ++ [O.cells 0 [.nilp, .nilp, .nilp, (.int .i64 0), .nils, .nils, .nils, (.int .i64 0), .nils, .nils, .nils, (.int .i64 0), .nils, .nils, .nils, (.bool false), (.bool false), (.bool false), .nils]]) : Option H).bind fun h1 =>
    (L12_0 N N (a0, (.ptr (h).length 0 0), 0, h1)).bind fun o34 => match o34 with
    | .inl (x35, h36) => (
    (F60 N (x35, 0, h36)).bind fun (x37, h38) =>
    (if x37 = true then (
    (F60 N (x35, 1, h38)).bind fun (x41, h42) =>
    some (x41, h42))
    else (
    some (false, h38))).bind fun (b39, h40) =>
    (if b39 = true then (
    (F60 N (x35, 2, h40)).bind fun (x45, h46) =>
    some (x45, h46))
    else (
    some (false, h40))).bind fun (b43, h44) =>
    (if b43 = true then (
    (F60 N (x35, 0, h44)).bind fun (x49, h50) =>
    some (x49, h50))
    else (
    some (false, h44))).bind fun (b47, h48) =>
    (if b47 = true then (
    (F30 100 []).bind fun (x53, _) =>
    some (x53, h48))
    else (
    some (false, h48))).bind fun (b51, h52) =>
    some (b51, h52))
    | .inr (x54, h55) => (
    some (x54, h55))
abbrev ks12 : List SK := [.one .ref]
abbrev rs12 : List SK := [.one .bool]
noncomputable def e12 (N : Nat) : Env := ⟨Try.prog, 37, inTab [], inTab [], natTab [], inTab [], calTab [(59, .full (mkFun ks59 rs59 (F59 N))), (60, .full (mkFun ks60 rs60 (F60 N))), (30, .pure (mkP ks30 rs30 (F30 100)))], altTab [], loopTab [(3, ⟨⟨.normal, [0, 3, 4], [.one .ref, .one .ref, .one (.int .i64)], [], []⟩, [⟨(.exit 0), [3], [.one .ref], [], []⟩, ⟨.ret, [2], [.one .bool], [], []⟩], L12_0 N⟩)], natTab []⟩
theorem l12_0 (N : Nat) : ∀ A, (e12 N).lp (lid (loopAt Try.f12 0)) = some A → LoopOk (e12 N) N (loopAt Try.f12 0) A :=
  loopOk_of (A := ⟨⟨.normal, [0, 3, 4], [.one .ref, .one .ref, .one (.int .i64)], [], []⟩, [⟨(.exit 0), [3], [.one .ref], [], []⟩, ⟨.ret, [2], [.one .bool], [], []⟩], L12_0 N⟩) (by kernel_rfl) (fun _ => rfl) (fun _ _ => by kernel_rfl)
theorem fine12 (N : Nat) : Fine (e12 N) N 12 Try.f12 ks12 rs12 (F12 N) :=
  ⟨Try.func12, by kernel_rfl, by kernel_rfl, by kernel_rfl, loops_of ⟨l12_0 N, trivial⟩, by kernel_rfl, by kernel_rfl, fun _ => by kernel_rfl⟩
theorem good12 (N : Nat) : Go.L.Good (e12 N) := good_of ⟨gd59 N, ⟨gd60 N, ⟨gd30, trivial⟩⟩⟩
theorem gd12 (N : Nat) : CalOk Try.prog 12 (.full (mkFun ks12 rs12 (F12 N))) := mkFun_good (fine12 N) (good12 N)

end Go.Proofs.Ytbpibiapjangmaa
