/- PROVED: 'carousellaw17.HomeNobody' answers true for every pair of ints, and the arguments read afterwards as before. No condition. -/
import Derived.Test.YtbpibiapjangmaaL35
import Derived.Test.YtbpibiapjangmaaHf
import Derived.Test.YtbpibiapjangmaaRows
import Derived.WalkKit
import Derived.ProofKit
import Derived.OpenShut
namespace Go.Proofs.Ytbpibiapjangmaa.homeNobody
open Go.L Go.ChangeShapes Go.WideShapes Go.ChangeAt Go.RowKit
set_option linter.unusedVariables false

/-- No core is there: whatever the core's number is. -/
theorem plays (a b : Int) : (F8 3 (a, b, [])).map (·.1) = some true := by
  cases a with
  | ofNat n => kernel_rfl
  | negSucc n => kernel_rfl

theorem main : ∀ vs, dataA Try.prog 8 Try.f8.params.toList vs → ∃ h', Triple Try.prog 8 vs [] (.bool true) h' := by
  intro vs h
  rw [Try.params8] at h
  obtain ⟨a, r, rfl, _, h⟩ := dataA_int Try.underlying3 h
  obtain ⟨b, r, rfl, _, h⟩ := dataA_int Try.underlying3 h
  cases dataA_nil h
  have := plays a b
  cases hF : F8 3 (a, b, []) with
  | none => rw [hF] at this; cases this
  | some p =>
    rw [hF] at this
    obtain ⟨x, h'⟩ := p
    simp at this
    subst this
    exact ⟨h', (fine8 3).triple (good8 3) hF⟩

theorem own : ownKnob Try.prog.godebug = none := by kernel_rfl

set_option maxRecDepth 100000 in
theorem lifted (os : Os) (started : os.Started) (H : Type) (enc : TypeId × Value → H) :
    ReturnsInHanded {} Try.checked os 8 .any (Rows.homeNobodySpec.pre6 enc Try.prog Try.f8 Rows.homeNobodyRow.domain false) (Rows.homeNobodySpec.post enc Try.prog Try.f8 false true false false) := by
  refine returnsInHanded_of_change (C := Try.checked) own started (by kernel_rfl) Try.func8
    (ChangeSpec.witness6 (enc := enc) (C := Try.checked) false ⟨#[], #[.int .i64 0, .int .i64 0], []⟩ 8 (by kernel_rfl) (by kernel_rfl) (by kernel_rfl) (by kernel_rfl)) ?_
  intro W base args ds gs before hval hW _ _
  exact row_calls (P := Try.prog) (fn := Try.f8) (n := 8) (by kernel_rfl) (by kernel_rfl) (by kernel_rfl) rfl Try.underlying4 (by kernel_rfl)
    (fun ds h => by
      match ds, h with
      | [_, _], _ => exact ⟨rfl, rfl, rfl⟩) rfl hval hW main

theorem over : Rows.homeNobodyRow.holds Try.pinned (OpenSpec.ofChange Rows.homeNobodySpec) :=
  OpenClaim.holds_of_wide 8 Try.f8 rfl rfl rfl rfl rfl rfl rfl ⟨rfl, rfl, rfl, rfl, rfl⟩ rfl rfl rfl rfl rfl (by kernel_rfl) Try.func8 (by kernel_rfl)
    (of_decide_eq_true (by kernel_rfl)) (by unfold Func.isWrapper; first | (rw [if_pos (by decide +kernel)]; kernel_rfl) | (rw [if_neg (by decide +kernel)]; exact ⟨rfl, rfl⟩))
    (fun os started H enc _ => lifted os started H enc)

/-- ████ THE STATEMENT ████ -/
theorem proved : Rows.HomeNobodySaid :=
  over
#print axioms proved

end Go.Proofs.Ytbpibiapjangmaa.homeNobody
