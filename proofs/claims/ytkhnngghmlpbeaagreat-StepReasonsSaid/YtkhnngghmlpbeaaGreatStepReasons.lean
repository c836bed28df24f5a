/- PROVED: 'carousellaw10.StepReasons' answers true for every number, and the argument reads afterwards as before. No condition. -/
import Derived.Test.YtkhnngghmlpbeaaGreatL39
import Derived.Test.YtkhnngghmlpbeaaGreati
import Derived.Test.YtkhnngghmlpbeaaGreatF
import Derived.Test.YtkhnngghmlpbeaaGreatRows
import Derived.WalkKit
import Derived.ProofKit
import Derived.OpenShut
import Derived.JoinedCond
namespace Go.Proofs.YtkhnngghmlpbeaaGreat.stepReasons
open Go.L Go.ChangeShapes Go.WideShapes Go.ChangeAt Go.RowKit
set_option linter.unusedVariables false
set_option linter.unusedSimpArgs false
set_option maxRecDepth 100000

theorem one0 : (F3 100 (0, [])).map (·.1) = some true := by kernel_rfl
theorem one1 : (F3 100 (1, [])).map (·.1) = some true := by kernel_rfl
theorem one31 : (F3 100 (31, [])).map (·.1) = some true := by kernel_rfl
theorem one32 : (F3 100 (32, [])).map (·.1) = some true := by kernel_rfl
theorem one33 : (F3 100 (33, [])).map (·.1) = some true := by kernel_rfl
theorem one34 : (F3 100 (34, [])).map (·.1) = some true := by kernel_rfl
theorem one90 : (F3 100 (90, [])).map (·.1) = some true := by kernel_rfl
theorem one91 : (F3 100 (91, [])).map (·.1) = some true := by kernel_rfl

theorem other9 {a : Int} (h0 : a ≠ 0) (h1 : a ≠ 32) (h2 : a ≠ 31) (h3 : a ≠ 33) (h4 : a ≠ 34) (h5 : a ≠ 90) (h6 : a ≠ 91) (h : H) : F9 100 (a, h) = F9 100 (1, h) := by
  rw [F9, F9]
  simp only [eF h0, eF h1, eF h2, eF h3, eF h4, eF h5, eF h6, itF, ifF, Bool.false_eq_true,
    eF (by decide : (1 : Int) ≠ 0), eF (by decide : (1 : Int) ≠ 32), eF (by decide : (1 : Int) ≠ 31), eF (by decide : (1 : Int) ≠ 33), eF (by decide : (1 : Int) ≠ 34), eF (by decide : (1 : Int) ≠ 90), eF (by decide : (1 : Int) ≠ 91)]
theorem other10 {a : Int} (h0 : a ≠ 0) (h1 : a ≠ 32) (h2 : a ≠ 31) (h3 : a ≠ 33) (h4 : a ≠ 34) (h5 : a ≠ 90) (h6 : a ≠ 91) (h : H) : F10 100 (a, h) = F10 100 (1, h) := by
  rw [F10, F10]
  simp only [eF h0, eF h1, eF h2, eF h3, eF h4, eF h5, eF h6, itF, ifF, Bool.false_eq_true,
    eF (by decide : (1 : Int) ≠ 0), eF (by decide : (1 : Int) ≠ 32), eF (by decide : (1 : Int) ≠ 31), eF (by decide : (1 : Int) ≠ 33), eF (by decide : (1 : Int) ≠ 34), eF (by decide : (1 : Int) ≠ 90), eF (by decide : (1 : Int) ≠ 91)]

theorem same {a : Int} (h9 : ∀ h, F9 100 (a, h) = F9 100 (1, h)) (h10 : ∀ h, F10 100 (a, h) = F10 100 (1, h)) : F3 100 (a, []) = F3 100 (1, []) := by
  rw [F3, F3]
  simp only [h9, h10]

theorem all (a : Int) : (F3 100 (a, [])).map (·.1) = some true := by
  by_cases h0 : a = 0
  · rw [h0]; exact one0
  by_cases h1 : a = 32
  · rw [h1]; exact one32
  by_cases h2 : a = 31
  · rw [h2]; exact one31
  by_cases h3 : a = 33
  · rw [h3]; exact one33
  by_cases h4 : a = 34
  · rw [h4]; exact one34
  by_cases h5 : a = 90
  · rw [h5]; exact one90
  by_cases h6 : a = 91
  · rw [h6]; exact one91
  rw [same (other9 h0 h1 h2 h3 h4 h5 h6) (other10 h0 h1 h2 h3 h4 h5 h6)]
  exact one1

theorem plays (a : Int) : ∃ h', F3 100 (a, []) = some (true, h') := by
  have := all a
  cases hF : F3 100 (a, []) with
  | none => rw [hF] at this; cases this
  | some p =>
    rw [hF] at this
    obtain ⟨x, h'⟩ := p
    simp at this
    subst this
    exact ⟨h', rfl⟩

theorem main : ∀ vs, dataA Tryz.prog 8 Tryz.f3.params.toList vs → ∃ h', Triple Tryz.prog 3 vs [] (.bool true) h' := by
  intro vs h
  rw [Tryz.params3] at h
  obtain ⟨a, r, rfl, _, h⟩ := dataA_int rfl Tryz.underlying3 h
  cases dataA_nil h
  obtain ⟨h', e⟩ := plays a
  exact ⟨h', (fine3 100).triple (good3 100) e⟩


theorem own : ownKnob Tryz.prog.godebug = none := by kernel_rfl

theorem lifted (os : Os) (started : os.Started) (H : Type) (enc : TypeId × Value → H) :
    ReturnsInHanded {} Tryz.checked os 3 .any (Rows.stepReasonsSpec.pre6 enc Tryz.prog Tryz.f3 Rows.stepReasonsRow.domain false) (Rows.stepReasonsSpec.post enc Tryz.prog Tryz.f3 false true false false) := by
  refine returnsInHanded_of_change (C := Tryz.checked) own started (by kernel_rfl) Tryz.func3
    (ChangeSpec.witness6 (enc := enc) (C := Tryz.checked) false ⟨#[], #[.int .i64 0], []⟩ 8 (by kernel_rfl) (by kernel_rfl) (by kernel_rfl) (by kernel_rfl)) ?_
  intro W base args ds gs before hval hW _ _
  exact row_calls (P := Tryz.prog) (fn := Tryz.f3) (n := 8) facts.laid facts.rowed facts.hz rfl Tryz.underlying4 (by kernel_rfl)
    (fun ds h => by
      match ds, h with
      | [_], _ => exact ⟨rfl, rfl, rfl⟩) rfl hval hW main

theorem over : Rows.stepReasonsRow.holds Tryz.pinned (OpenSpec.ofChange Rows.stepReasonsSpec) :=
  OpenClaim.holds_of_wide 3 Tryz.f3 rfl rfl rfl rfl rfl rfl rfl ⟨rfl, rfl, rfl, rfl, rfl⟩ rfl rfl rfl rfl rfl facts.found Tryz.func3 facts.closed
    (of_decide_eq_true (by kernel_rfl)) (by unfold Func.isWrapper; first | (rw [if_pos (by decide +kernel)]; kernel_rfl) | (rw [if_neg (by decide +kernel)]; exact ⟨rfl, rfl⟩))
    (fun os started H enc _ => lifted os started H enc)

/-- ████ THE STATEMENT ████ -/
theorem proved : Rows.StepReasonsSaid :=
  over
#print axioms proved

end Go.Proofs.YtkhnngghmlpbeaaGreat.stepReasons
