/- The script's steps, in parts (cut out by cut.py of what gen.py printed). -/
import Derived.Test.YtbpibiapjangmaaTabQ
import Derived.Test.YtbpibiapjangmaaTh
namespace Go.Proofs.Ytbpibiapjangmaa.tabs
open Go Go.L
set_option linter.unusedVariables false

noncomputable def one2 (N : Nat) : V × Int × V × Int × Int × Int × Int × Int × Int × Int × ByteArray × Int × Int × H → Option (Bool × H)
  | (x11, x12, x13, x14, x15, x16, x17, x18, x19, x20, x21, x22, x23, h24) =>
    (if (x14 == 2) = true then (
    (F24 N (x13, h24)).bind fun (x25, x26, x27, h28) =>
    (nck x11).bind fun _ =>
    (aidx (padd x11 15) x12 3 1).bind fun q29 =>
    (L.asBool (rd h28 q29 0)).bind fun x30 =>
    (if (!x30) = true then (
    (if (x27 == 1) = true then (
    some (((x25 == 0) && ((x26 == 0) && true)), h28))
    else (
    some (false, h28))).bind fun (b31, h32) =>
    some (b31, h32))
    else (
    (nck x11).bind fun _ =>
    (aidx (padd x11 3) x12 3 4).bind fun q33 =>
    (L.asInt .i64 (rd h28 q33 0)).bind fun x34 =>
    ((rd h28 q33 1)).bind fun x35 =>
    ((rd h28 q33 2)).bind fun x36 =>
    ((rd h28 q33 3)).bind fun x37 =>
    (F58 N (x34, x35, x36, x37, h28)).bind fun (x38, x39, x40, x41, x42, x43, x44, h45) =>
    (nck x11).bind fun _ =>
    (aidx (padd x11 3) x12 3 4).bind fun q46 =>
    (wr h45 q46 [(.int .i64 x38), x39, x40, x41]).bind fun h47 =>
    (nck x11).bind fun _ =>
    ((rd h47 (padd x11 18) 0)).bind fun x48 =>
    (happ h47 x48 2 1 [(.int .i64 x42), (.int .i64 x43)]).bind fun (v49, h50) =>
    (nck x11).bind fun _ =>
    (ck1 v49).bind fun _ =>
    (wr h50 (padd x11 18) [v49]).bind fun h51 =>
    (if ((x25 == x42) && ((x26 == x43) && true)) = true then (
    some ((x27 == x44), h51))
    else (
    some (false, h51))).bind fun (b52, h53) =>
    some (b52, h53))))
    else (
    (if (x14 == 3) = true then (
    (F25 N (x13, x22, x23, h24)).bind fun (x54, h55) =>
    (nck x11).bind fun _ =>
    (aidx (padd x11 15) x12 3 1).bind fun q56 =>
    (L.asBool (rd h55 q56 0)).bind fun x57 =>
    (if (!x57) = true then (
    some ((x54 == 1), h55))
    else (
    (nck x11).bind fun _ =>
    (aidx (padd x11 3) x12 3 4).bind fun q58 =>
    (L.asInt .i64 (rd h55 q58 0)).bind fun x59 =>
    ((rd h55 q58 1)).bind fun x60 =>
    ((rd h55 q58 2)).bind fun x61 =>
    ((rd h55 q58 3)).bind fun x62 =>
    (F84 N (x59, x60, x61, x62, x22, x23, h55)).bind fun (x63, x64, x65, x66, x67, h68) =>
    (nck x11).bind fun _ =>
    (aidx (padd x11 3) x12 3 4).bind fun q69 =>
    (wr h68 q69 [(.int .i64 x63), x64, x65, x66]).bind fun h70 =>
    some ((x54 == x67), h70))))
    else (
    (if (x14 == 4) = true then (
    (F28 N (x13, x22, x23, x21, h24)).bind fun (x71, h72) =>
    (nck x11).bind fun _ =>
    (aidx (padd x11 15) x12 3 1).bind fun q73 =>
    (L.asBool (rd h72 q73 0)).bind fun x74 =>
    (if (!x74) = true then (
    some ((x71 == 1), h72))
    else (
    (nck x11).bind fun _ =>
    (aidx (padd x11 3) x12 3 4).bind fun q75 =>
    (L.asInt .i64 (rd h72 q75 0)).bind fun x76 =>
    ((rd h72 q75 1)).bind fun x77 =>
    ((rd h72 q75 2)).bind fun x78 =>
    ((rd h72 q75 3)).bind fun x79 =>
    (F85 N (x76, x77, x78, x79, x22, x23, x21, h72)).bind fun (x80, x81, x82, x83, x84, h85) =>
    (nck x11).bind fun _ =>
    (aidx (padd x11 3) x12 3 4).bind fun q86 =>
    (wr h85 q86 [(.int .i64 x80), x81, x82, x83]).bind fun h87 =>
    some ((x71 == x84), h87))))
    else (
    (F29 N (x13, x21, h24)).bind fun (x88, x89, x90, _) =>
    (nck x11).bind fun _ =>
    (aidx (padd x11 15) x12 3 1).bind fun q91 =>
    (L.asBool (rd h24 q91 0)).bind fun x92 =>
    (if (!x92) = true then (
    (if (x90 == 1) = true then (
    some (((x88 == 0) && ((x89 == 0) && true)), h24))
    else (
    some (false, h24))).bind fun (b93, h94) =>
    (if b93 = true then (
    (F27 N (x13, x22, x23, h94)).bind fun (x97, _) =>
    some ((!x97), h94))
    else (
    some (false, h94))).bind fun (b95, h96) =>
    (if b95 = true then (
    (F26 N (x13, x22, x23, h96)).bind fun (x100, _) =>
    some (((x100).toList == ((ByteArray.mk #[])).toList), h96))
    else (
    some (false, h96))).bind fun (b98, h99) =>
    some (b98, h99))
    else (
    (nck x11).bind fun _ =>
    (aidx (padd x11 3) x12 3 4).bind fun q101 =>
    (L.asInt .i64 (rd h24 q101 0)).bind fun x102 =>
    ((rd h24 q101 1)).bind fun x103 =>
    ((rd h24 q101 2)).bind fun x104 =>
    ((rd h24 q101 3)).bind fun x105 =>
    (F71 N (x102, x103, x104, x105, x21, h24)).bind fun (x106, x107, x108, _) =>
    (if ((x88 == x106) && ((x89 == x107) && true)) = true then (
    some ((x90 == x108), h24))
    else (
    some (false, h24))).bind fun (b109, h110) =>
    (if b109 = true then (
    (F27 N (x13, x22, x23, h110)).bind fun (x113, _) =>
    (nck x11).bind fun _ =>
    (aidx (padd x11 3) x12 3 4).bind fun q114 =>
    (L.asInt .i64 (rd h110 q114 0)).bind fun x115 =>
    ((rd h110 q114 1)).bind fun x116 =>
    ((rd h110 q114 2)).bind fun x117 =>
    ((rd h110 q114 3)).bind fun x118 =>
    (F86 N (x115, x116, x117, x118, x22, x23, h110)).bind fun (x119, _) =>
    some ((x113 == x119), h110))
    else (
    some (false, h110))).bind fun (b111, h112) =>
    (if b111 = true then (
    (F26 N (x13, x22, x23, h112)).bind fun (x122, _) =>
    (nck x11).bind fun _ =>
    (aidx (padd x11 3) x12 3 4).bind fun q123 =>
    (L.asInt .i64 (rd h112 q123 0)).bind fun x124 =>
    ((rd h112 q123 1)).bind fun x125 =>
    ((rd h112 q123 2)).bind fun x126 =>
    ((rd h112 q123 3)).bind fun x127 =>
    (F80 N (x124, x125, x126, x127, x22, x23, h112)).bind fun (x128, _) =>
    some (((x122).toList == (x128).toList), h112))
    else (
    some (false, h112))).bind fun (b120, h121) =>
    some (b120, h121)))))))))

noncomputable def step2 (N : Nat) : V × Int × Int × Int × Bool × Int × Int × Int × Int × Int × Int × Int × ByteArray × H → Option ((H) ⊕ (Bool × H))
  | (x19, x20, x21, x22, x23, x24, x25, x26, x27, x28, x29, x30, x31, h32) =>
    (if x23 = true then (
    (F75 N (x19, x20, x24, x25, x26, x27, x28, x29, x30, x31, h32)).bind fun (x33, h34) =>
    some (.inr (x33, h34)))
    else (
    (if (x22 == 6) = true then (
    (nck x19).bind fun _ =>
    (aidx (padd x19 0) x20 3 1).bind fun q35 =>
    ((rd h32 q35 0)).bind fun x36 =>
    (F76 N (x36, h32)).bind fun (x37, h38) =>
    (nck x19).bind fun _ =>
    (aidx (padd x19 0) x21 3 1).bind fun q39 =>
    (ck1 x37).bind fun _ =>
    (wr h38 q39 [x37]).bind fun h40 =>
    (nck x19).bind fun _ =>
    (aidx (padd x19 3) x20 3 4).bind fun q41 =>
    (L.asInt .i64 (rd h40 q41 0)).bind fun x42 =>
    ((rd h40 q41 1)).bind fun x43 =>
    ((rd h40 q41 2)).bind fun x44 =>
    ((rd h40 q41 3)).bind fun x45 =>
    (nck x19).bind fun _ =>
    (aidx (padd x19 3) x21 3 4).bind fun q46 =>
    (wr h40 q46 [(.int .i64 x42), x43, x44, x45]).bind fun h47 =>
    (nck x19).bind fun _ =>
    (aidx (padd x19 15) x20 3 1).bind fun q48 =>
    (L.asBool (rd h47 q48 0)).bind fun x49 =>
    (nck x19).bind fun _ =>
    (aidx (padd x19 15) x21 3 1).bind fun q50 =>
    (wr h47 q50 [(.bool x49)]).bind fun h51 =>
    (isNil x37).bind fun b52 =>
    (nck x19).bind fun _ =>
    (aidx (padd x19 15) x20 3 1).bind fun q53 =>
    (L.asBool (rd h51 q53 0)).bind fun x54 =>
    some (.inr (((!b52) == x54), h51)))
    else (
    (if (x22 == 7) = true then (
    (nck x19).bind fun _ =>
    (aidx (padd x19 15) x20 3 1).bind fun q55 =>
    (L.asBool (rd h32 q55 0)).bind fun x56 =>
    (if x56 = true then (
    (nck x19).bind fun _ =>
    (aidx (padd x19 0) x20 3 1).bind fun q57 =>
    ((rd h32 q57 0)).bind fun x58 =>
    (nck x19).bind fun _ =>
    (aidx (padd x19 0) x20 3 1).bind fun q59 =>
    ((rd h32 q59 0)).bind fun x60 =>
    (nck x19).bind fun _ =>
    (aidx (padd x19 3) x20 3 4).bind fun q61 =>
    (L.asInt .i64 (rd h32 q61 0)).bind fun x62 =>
    ((rd h32 q61 1)).bind fun x63 =>
    ((rd h32 q61 2)).bind fun x64 =>
    ((rd h32 q61 3)).bind fun x65 =>
    (F77 N (x58, h32)).bind fun (x66, h67) =>
    (F32 N (x60, h67)).bind fun (x68, h69) =>
    (F78 N (x62, x63, x64, x65, h69)).bind fun (x70, h71) =>
    (F53 N (x66, x68, x70, h71)).bind fun (x72, x73, h74) =>
    (nck x19).bind fun _ =>
    (aidx (padd x19 0) x21 3 1).bind fun q75 =>
    (ck1 x72).bind fun _ =>
    (wr h74 q75 [x72]).bind fun h76 =>
    (nck x19).bind fun _ =>
    (aidx (padd x19 3) x20 3 4).bind fun q77 =>
    (L.asInt .i64 (rd h76 q77 0)).bind fun x78 =>
    ((rd h76 q77 1)).bind fun x79 =>
    ((rd h76 q77 2)).bind fun x80 =>
    ((rd h76 q77 3)).bind fun x81 =>
    (nck x19).bind fun _ =>
    (aidx (padd x19 3) x21 3 4).bind fun q82 =>
    (wr h76 q82 [(.int .i64 x78), x79, x80, x81]).bind fun h83 =>
    (nck x19).bind fun _ =>
    (aidx (padd x19 15) x21 3 1).bind fun q84 =>
    (wr h83 q84 [(.bool true)]).bind fun h85 =>
    (if (x73 == 0) = true then (
    (isNil x72).bind fun b88 =>
    some ((!b88), h85))
    else (
    some (false, h85))).bind fun (b86, h87) =>
    some (.inr (b86, h87)))
    else (
    some (.inl h32))))
    else (
    (if (x22 == 8) = true then (
    (F60 N (x19, x20, h32)).bind fun (x89, h90) =>
    some (.inr (x89, h90)))
    else (
    some (.inl h32)))))))))

/-- Which pid is meant. -/
noncomputable def pick (h : H) (late p q : Int) : Option (Int × Int) :=
  ((if (decide (late ≥ 0)) = true then (
    (nck (pt 0)).bind fun _ =>
    ((rd h (padd (pt 0) 18) 0)).bind fun x5 =>
    (slen x5).bind fun n6 =>
    some ((decide (late < n6))))
    else (
    some (false))) : Option Bool).bind fun b3 =>
    if b3 = true then (
    (nck (pt 0)).bind fun _ =>
    ((rd h (padd (pt 0) 18) 0)).bind fun x7 =>
    (sidx x7 late 2).bind fun q8 =>
    (L.asInt .i64 (rd h q8 0)).bind fun x9 =>
    (L.asInt .i64 (rd h q8 1)).bind fun x10 => some (x9, x10)) else some (p, q)

theorem one_eq (N : Nat) (k kind on at' n late p q : Int) (s : ByteArray) (h : H) {x : V} {qq : V} (h1 : aidx (padd (pt 0) 0) k 3 1 = some qq) (h2 : rd h qq 0 = some x) {u v : Int} (h3 : pick h late p q = some (u, v)) :
    F75 N (pt 0, k, kind, on, at', n, late, p, q, s, h) = one2 N (pt 0, k, x, kind, on, at', n, late, p, q, s, u, v, h) := by
  have e : F75 N (pt 0, k, kind, on, at', n, late, p, q, s, h) = (pick h late p q).bind fun w => one2 N (pt 0, k, x, kind, on, at', n, late, p, q, s, w.1, w.2, h) := by
    rw [F75, pick]
    simp only [pnck, bs, h1, h2]
    by_cases a1 : late ≥ 0
    · simp only [dT a1, itT, ifT, Option.bind_assoc]
      cases e5 : rd h (padd (pt 0) 18) 0 with
      | none => rfl
      | some x5 =>
        simp only [bs]
        cases slen x5 with
        | none => rfl
        | some n6 =>
          simp only [bs]
          by_cases a2 : late < n6
          · simp only [dT a2, itT, ifT, Option.bind_assoc, e5, bs]
            cases sidx x5 late 2 with
            | none => rfl
            | some q8 =>
              simp only [bs]
              cases L.asInt .i64 (rd h q8 0) with
              | none => rfl
              | some x9 =>
                simp only [bs]
                cases L.asInt .i64 (rd h q8 1) with
                | none => rfl
                | some x10 => simp only [bs]; rfl
          · simp only [dF a2, itF, ifF, bs, Bool.false_eq_true]; rfl
    · simp only [dF a1, itF, ifF, bs, Bool.false_eq_true]; rfl
  rw [e, h3, bs]

theorem step_eq (N : Nat) (kind on at' n late p q : Int) (s : ByteArray) (h : H) (hk : kind ≠ 1) :
    F59 N (pt 0, kind, on, at', n, late, p, q, s, h) = (step2 N (pt 0, (IntKind.i64.wrap (Int.tmod (IntKind.u64.wrap on) 3)), (IntKind.i64.wrap (Int.tmod (IntKind.u64.wrap at') 3)), kind, decide (kind = 2 ∨ kind = 3 ∨ kind = 4 ∨ kind = 5), kind, on, at', n, late, p, q, s, h)).bind fun o59 => match o59 with
    | .inl h60 => (
    some (true, h60))
    | .inr (x61, h62) => (
    some (x61, h62)) := by
  rw [F59]
  simp only [eF hk, itF, ifF, Bool.false_eq_true]
  by_cases h2 : kind = 2
  · subst h2; simp only [eT, itT, ifT, bs]; rfl
  simp only [eF h2, itF, ifF, Bool.false_eq_true]
  by_cases h3 : kind = 3
  · subst h3; simp only [eT, itT, ifT, bs]; rfl
  simp only [eF h3, itF, ifF, Bool.false_eq_true]
  by_cases h4 : kind = 4
  · subst h4; simp only [eT, itT, ifT, bs]; rfl
  simp only [eF h4, itF, ifF, Bool.false_eq_true, bs]
  have : (kind == 5) = decide (kind = 2 ∨ kind = 3 ∨ kind = 4 ∨ kind = 5) := by
    by_cases h5 : kind = 5
    · subst h5; rfl
    · rw [eF h5, decide_eq_false (by omega)]
  rw [this]; rfl

end Go.Proofs.Ytbpibiapjangmaa.tabs
