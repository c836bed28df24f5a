/- PROVED: 'carousellaw20.LogNil' answers true for every event, and the argument read afterwards as before. No condition. -/
import Derived.Test.YtbpibiapjangmaaL37
import Derived.Test.YtbpibiapjangmaaLg
import Derived.Test.YtbpibiapjangmaaRows
import Derived.WalkKit
import Derived.ProofKit
import Derived.OpenShut
namespace Go.Proofs.Ytbpibiapjangmaa.logNil
open Go.L Go.ChangeShapes Go.WideShapes Go.ChangeAt Go.RowKit
set_option linter.unusedVariables false

theorem plays (a b c d e f : Int) : (F10 100 (a, b, c, d, e, f, [])).map (·.1) = some true := by kernel_rfl

theorem kids : Kids Try.prog (· < Try.prog.types.size) := kids_rows (by kernel_rfl) (by kernel_rfl)
theorem lv82 : leaves Try.prog 8 82 = some [.int .i64, .int .i64, .int .i64, .int .i64, .int .i64, .int .i64] := by kernel_rfl

set_option maxRecDepth 100000 in
theorem main : ∀ vs, dataA Try.prog 8 Try.f10.params.toList vs → ∃ h', Triple Try.prog 10 vs [] (.bool true) h' := by
  intro vs h
  rw [Try.params10] at h
  obtain ⟨cs, r, rfl, hd, h⟩ := dataA_struct Try.underlying82 h
  cases dataA_nil h
  obtain ⟨⟨a, b, c, d, e, f, _⟩, rfl, _⟩ := leaves_of kids 8 8 82 cs _ hd lv82 (of_decide_eq_true (by kernel_rfl))
  have := plays a b c d e f
  cases hF : F10 100 (a, b, c, d, e, f, []) with
  | none => rw [hF] at this; cases this
  | some p =>
    rw [hF] at this
    obtain ⟨x, h'⟩ := p
    simp at this
    subst this
    exact ⟨h', (fine10 100).triple (good10 100) hF⟩

theorem own : ownKnob Try.prog.godebug = none := by kernel_rfl

set_option maxRecDepth 100000 in
theorem lifted (os : Os) (started : os.Started) (H : Type) (enc : TypeId × Value → H) :
    ReturnsInHanded {} Try.checked os 10 .any (Rows.logNilSpec.pre6 enc Try.prog Try.f10 Rows.logNilRow.domain false) (Rows.logNilSpec.post enc Try.prog Try.f10 false true false false) := by
  refine returnsInHanded_of_change (C := Try.checked) own started (by kernel_rfl) Try.func10
    (ChangeSpec.witness6 (enc := enc) (C := Try.checked) false ⟨#[], #[.agg #[.int .i64 0, .int .i64 0, .int .i64 0, .int .i64 0, .int .i64 0, .int .i64 0]], []⟩ 8 (by kernel_rfl) (by kernel_rfl) (by kernel_rfl) (by kernel_rfl)) ?_
  intro W base args ds gs before hval hW _ _
  exact row_calls (P := Try.prog) (fn := Try.f10) (n := 8) (by kernel_rfl) (by kernel_rfl) (by kernel_rfl) rfl Try.underlying4 (by kernel_rfl)
    (fun ds h => by
      match ds, h with
      | [_], _ => exact ⟨rfl, rfl, rfl⟩) rfl hval hW main

theorem over : Rows.logNilRow.holds Try.pinned (OpenSpec.ofChange Rows.logNilSpec) :=
  OpenClaim.holds_of_wide 10 Try.f10 rfl rfl rfl rfl rfl rfl rfl ⟨rfl, rfl, rfl, rfl, rfl⟩ rfl rfl rfl rfl rfl (by kernel_rfl) Try.func10 (by kernel_rfl)
    (of_decide_eq_true (by kernel_rfl)) (by unfold Func.isWrapper; first | (rw [if_pos (by decide +kernel)]; kernel_rfl) | (rw [if_neg (by decide +kernel)]; exact ⟨rfl, rfl⟩))
    (fun os started H enc _ => lifted os started H enc)

/-- ████ THE STATEMENT ████ -/
theorem proved : Rows.LogNilSaid :=
  over
#print axioms proved

end Go.Proofs.Ytbpibiapjangmaa.logNil
