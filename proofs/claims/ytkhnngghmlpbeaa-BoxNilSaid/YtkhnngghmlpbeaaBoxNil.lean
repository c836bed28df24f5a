/- PROVED: 'carousellaw12.BoxNil' answers true for every lane, and the argument reads afterwards as before. No condition. -/
import Derived.Test.YtkhnngghmlpbeaaL39
import Derived.Test.Ytkhnngghmlpbeaag
import Derived.Test.YtkhnngghmlpbeaaRows
import Derived.WalkKit
import Derived.ProofKit
import Derived.OpenShut
import Derived.JoinedCond
namespace Go.Proofs.Ytkhnngghmlpbeaa.boxNil
open Go.L Go.ChangeShapes Go.WideShapes Go.ChangeAt Go.RowKit
set_option linter.unusedVariables false

set_option maxRecDepth 100000 in
theorem all (lane : Int) : (F4 100 (lane, [])).map (·.1) = some true := by kernel_rfl

theorem plays (lane : Int) : ∃ h', F4 100 (lane, []) = some (true, h') := by
  have := all lane
  cases hF : F4 100 (lane, []) with
  | none => rw [hF] at this; cases this
  | some p =>
    rw [hF] at this
    obtain ⟨x, h'⟩ := p
    simp at this
    subst this
    exact ⟨h', rfl⟩

set_option maxRecDepth 100000 in
theorem main : ∀ vs, dataA Try.prog 8 Try.f4.params.toList vs → ∃ h', Triple Try.prog 4 vs [] (.bool true) h' := by
  intro vs h
  rw [Try.params4] at h
  obtain ⟨lane, r, rfl, _, h⟩ := dataA_int rfl Try.underlying3 h
  cases dataA_nil h
  obtain ⟨h', e⟩ := plays lane
  exact ⟨h', (fine4 100).triple (good4 100) e⟩


theorem own : ownKnob Try.prog.godebug = none := by kernel_rfl

set_option maxRecDepth 100000 in
theorem lifted (os : Os) (started : os.Started) (H : Type) (enc : TypeId × Value → H) :
    ReturnsInHanded {} Try.checked os 4 .any (Rows.boxNilSpec.pre6 enc Try.prog Try.f4 Rows.boxNilRow.domain false) (Rows.boxNilSpec.post enc Try.prog Try.f4 false true false false) := by
  refine returnsInHanded_of_change (C := Try.checked) own started (by kernel_rfl) Try.func4
    (ChangeSpec.witness6 (enc := enc) (C := Try.checked) false ⟨#[], #[.int .i64 0], []⟩ 8 (by kernel_rfl) (by kernel_rfl) (by kernel_rfl) (by kernel_rfl)) ?_
  intro W base args ds gs before hval hW _ _
  exact row_calls (P := Try.prog) (fn := Try.f4) (n := 8) (by kernel_rfl) (by kernel_rfl) (by kernel_rfl) rfl Try.underlying4 (by kernel_rfl)
    (fun ds h => by
      match ds, h with
      | [_], _ => exact ⟨rfl, rfl, rfl⟩) rfl hval hW main

theorem over : Rows.boxNilRow.holds Try.pinned (OpenSpec.ofChange Rows.boxNilSpec) :=
  OpenClaim.holds_of_wide 4 Try.f4 rfl rfl rfl rfl rfl rfl rfl ⟨rfl, rfl, rfl, rfl, rfl⟩ rfl rfl rfl rfl rfl (by kernel_rfl) Try.func4 (by kernel_rfl)
    (of_decide_eq_true (by kernel_rfl)) (by unfold Func.isWrapper; first | (rw [if_pos (by decide +kernel)]; kernel_rfl) | (rw [if_neg (by decide +kernel)]; exact ⟨rfl, rfl⟩))
    (fun os started H enc _ => lifted os started H enc)

/-- ████ THE STATEMENT ████ -/
theorem proved : Rows.BoxNilSaid :=
  over
#print axioms proved

end Go.Proofs.Ytkhnngghmlpbeaa.boxNil
