/- PROVED: 'carousellaw03.TermDivides' answers true for every two whole numbers, and both arguments read afterwards as before. No condition. -/
import Derived.Test.YtkhnngghmlpbeaaL39
import Derived.Test.YtkhnngghmlpbeaaD
import Derived.Test.YtkhnngghmlpbeaaRows
import Derived.WalkKit
import Derived.ProofKit
import Derived.OpenShut
import Derived.JoinedCond
namespace Go.Proofs.Ytkhnngghmlpbeaa.termDivides
open Go.L Go.ChangeShapes Go.WideShapes Go.ChangeAt Go.RowKit
set_option linter.unusedVariables false
set_option linter.unusedSimpArgs false

set_option maxRecDepth 100000 in
theorem awk : (F8 100 []).map (·.1) = some true := by kernel_rfl

theorem wake : ∃ y, F8 100 [] = some (true, y) := by
  have := awk
  cases hF : F8 100 [] with
  | none => rw [hF] at this; cases this
  | some p =>
    rw [hF] at this
    obtain ⟨x, h'⟩ := p
    simp at this
    subst this
    exact ⟨h', rfl⟩

/-- Where an error comes. -/
theorem bad (a b n : Int) (hn : n ≠ 0) (h1 h2 : H)
    (e1 : F6 100 (9, 3, a, (0, 0), (ByteArray.mk #[]), 0, 0, .nils, 3, b, (0, 0), (ByteArray.mk #[]), 0, 0, .nils, []) = out 0 n h1)
    (e2 : F6 100 (10, 3, a, (0, 0), (ByteArray.mk #[]), 0, 0, .nils, 3, b, (0, 0), (ByteArray.mk #[]), 0, 0, .nils, h1) = out 0 n h2)
    (e3 : F7 100 (9, 3, a, (0, 0), (ByteArray.mk #[]), 0, 0, .nils, 3, b, (0, 0), (ByteArray.mk #[]), 0, 0, .nils, h2) = out 0 n h2) :
    F3 100 (a, b, []) = some (true, h2) := by
  obtain ⟨y, w⟩ := wake
  simp only [out] at e1 e2 e3
  rw [F3]
  simp only [F5, bs, e1, e2, e3, nqF hn, eT, itT, ifT, w]

/-- Where numbers come. -/
theorem good (a b : Int) (ha : ok a = true) (hc : ok b = true) (hb : b ≠ 0) (h1 h2 : H)
    (e1 : F6 100 (9, 3, a, (0, 0), (ByteArray.mk #[]), 0, 0, .nils, 3, b, (0, 0), (ByteArray.mk #[]), 0, 0, .nils, []) = num (IntKind.i64.wrap (Int.tdiv a b)) h1)
    (e2 : F6 100 (10, 3, a, (0, 0), (ByteArray.mk #[]), 0, 0, .nils, 3, b, (0, 0), (ByteArray.mk #[]), 0, 0, .nils, h1) = num (Int.tmod a b) h2) :
    F3 100 (a, b, []) = some (true, h2) := by
  obtain ⟨y, w⟩ := wake
  simp only [num] at e1 e2
  obtain ⟨p1, p2, p3, p4, p5, p6⟩ := parts a b hb
  have ra := inR ha
  have rb := inR hc
  generalize hq : Int.tdiv a b = q at *
  generalize hr : Int.tmod a b = r at *
  have wq : IntKind.i64.wrap q = q := wrapIn (by omega)
  have wm : IntKind.i64.wrap (q * b) = q * b := wrapIn (by omega)
  have ws : IntKind.i64.wrap (q * b + r) = a := by rw [p1]; exact wrapIn (by omega)
  have wn : IntKind.i64.wrap (0 - b) = 0 - b := wrapIn (by omega)
  rw [wq] at e1
  have k0 : ((0 : Int) != 0) = false := rfl
  have nn : (a != a) = false := nqT a
  have sg : r ≠ 0 → (!(decide (r < 0) == decide (a < 0))) = false := by
    intro h
    by_cases c : a < 0
    · rw [dT c, dT (by omega : r < 0)]; rfl
    · rw [dF c, dF (by omega : ¬ r < 0)]; rfl
  rw [F3]
  simp only [F5, bs, e1, e2, k0, itF, ifF, Bool.false_eq_true, wm, ws, nn, wn]
  have s1 : ((if (r != 0) = true then some ((!(decide (r < 0) == decide (a < 0))), h2) else some (false, h2)) : Option (Bool × H)) = some (false, h2) := by
    by_cases z : r = 0
    · rw [z]; rfl
    · rw [sg z, nqF z]; rfl
  have s2 : ((if decide (r < b) = true then some (true, h2) else some (decide (b < 0), h2)) : Option (Bool × H)) = some (true, h2) := by
    by_cases z : r < b
    · rw [dT z]; rfl
    · rw [dF z, dT (by omega : b < 0)]; rfl
  have s3 : ((if decide (r < 0 - b) = true then some (true, h2) else some (decide (b > 0), h2)) : Option (Bool × H)) = some (true, h2) := by
    by_cases z : r < 0 - b
    · rw [dT z]; rfl
    · rw [dF z, dT (by omega : b > 0)]; rfl
  have s4 : ((if decide (r > 0 - b) = true then some (true, h2) else some (decide (b < 0), h2)) : Option (Bool × H)) = some (true, h2) := by
    by_cases z : r > 0 - b
    · rw [dT z]; rfl
    · rw [dF z, dT (by omega : b < 0)]; rfl
  have s5 : ((if decide (r > b) = true then some (true, h2) else some (decide (b > 0), h2)) : Option (Bool × H)) = some (true, h2) := by
    by_cases z : r > b
    · rw [dT z]; rfl
    · rw [dF z, dT (by omega : b > 0)]; rfl
  simp only [s1, s2, s3, s4, s5, bs, itT, itF, ifT, ifF, Bool.false_eq_true, w]

theorem plays (a b : Int) : ∃ h', F3 100 (a, b, []) = some (true, h') := by
  obtain ⟨h1, h2, e1, e2⟩ := divs [] a b
  cases hk : (ok a && ok b)
  · rw [hk] at e1 e2
    exact ⟨_, bad a b 30 (by decide) h1 h2 e1 e2 (f7bad h2 a b hk)⟩
  · have ha : ok a = true := by revert hk; cases ok a <;> simp
    have hc : ok b = true := by revert hk; cases ok b <;> simp
    rw [hk, if_pos rfl] at e1 e2
    by_cases hb : b = 0
    · rw [if_pos hb] at e1 e2
      exact ⟨_, bad a b 33 (by decide) h1 h2 e1 e2 (by rw [hb]; exact f7zero h2 a ha)⟩
    · rw [if_neg hb] at e1 e2
      exact ⟨_, good a b ha hc hb h1 h2 e1 e2⟩

set_option maxRecDepth 100000 in
theorem main : ∀ vs, dataA Try.prog 8 Try.f3.params.toList vs → ∃ h', Triple Try.prog 3 vs [] (.bool true) h' := by
  intro vs h
  rw [Try.params3] at h
  obtain ⟨a, r, rfl, _, h⟩ := dataA_int rfl Try.underlying3 h
  obtain ⟨b, r, rfl, _, h⟩ := dataA_int rfl Try.underlying3 h
  cases dataA_nil h
  obtain ⟨h', e⟩ := plays a b
  exact ⟨h', (fine3 100).triple (good3 100) e⟩


theorem own : ownKnob Try.prog.godebug = none := by kernel_rfl

set_option maxRecDepth 100000 in
theorem lifted (os : Os) (started : os.Started) (H : Type) (enc : TypeId × Value → H) :
    ReturnsInHanded {} Try.checked os 3 .any (Rows.termDividesSpec.pre6 enc Try.prog Try.f3 Rows.termDividesRow.domain false) (Rows.termDividesSpec.post enc Try.prog Try.f3 false true false false) := by
  refine returnsInHanded_of_change (C := Try.checked) own started (by kernel_rfl) Try.func3
    (ChangeSpec.witness6 (enc := enc) (C := Try.checked) false ⟨#[], #[.int .i64 0, .int .i64 0], []⟩ 8 (by kernel_rfl) (by kernel_rfl) (by kernel_rfl) (by kernel_rfl)) ?_
  intro W base args ds gs before hval hW _ _
  exact row_calls (P := Try.prog) (fn := Try.f3) (n := 8) (by kernel_rfl) (by kernel_rfl) (by kernel_rfl) rfl Try.underlying4 (by kernel_rfl)
    (fun ds h => by
      match ds, h with
      | [_, _], _ => exact ⟨rfl, rfl, rfl⟩) rfl hval hW main

theorem over : Rows.termDividesRow.holds Try.pinned (OpenSpec.ofChange Rows.termDividesSpec) :=
  OpenClaim.holds_of_wide 3 Try.f3 rfl rfl rfl rfl rfl rfl rfl ⟨rfl, rfl, rfl, rfl, rfl⟩ rfl rfl rfl rfl rfl (by kernel_rfl) Try.func3 (by kernel_rfl)
    (of_decide_eq_true (by kernel_rfl)) (by unfold Func.isWrapper; first | (rw [if_pos (by decide +kernel)]; kernel_rfl) | (rw [if_neg (by decide +kernel)]; exact ⟨rfl, rfl⟩))
    (fun os started H enc _ => lifted os started H enc)

/-- ████ THE STATEMENT ████ -/
theorem proved : Rows.TermDividesSaid :=
  over
#print axioms proved

end Go.Proofs.Ytkhnngghmlpbeaa.termDivides
