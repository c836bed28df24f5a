/- PROVED: 'carousellaw21.NodeNobody' answers true for every pid and every number, and the arguments read afterwards as before. No condition. -/
import Derived.Test.YtgipaccfnlklcaaGreatLC
import Derived.Test.YtgipaccfnlklcaaGreatp
import Derived.Test.YtgipaccfnlklcaaGreatF
import Derived.Test.YtgipaccfnlklcaaGreatRows
import Derived.WalkKit
import Derived.ProofKit
import Derived.OpenShut
import Derived.JoinedCond
namespace Go.Proofs.YtgipaccfnlklcaaGreat.nodeNobody
open Go.L Go.ChangeShapes Go.WideShapes Go.ChangeAt Go.RowKit
set_option linter.unusedVariables false
set_option linter.unusedSimpArgs false
set_option maxRecDepth 100000

theorem plays (a b k : Int) : ∃ h', F4 100 (a, b, k, []) = some (true, h') := by
  have := bothN a b k
  cases hF : F4 100 (a, b, k, []) with
  | none => rw [hF] at this; cases this
  | some p =>
    rw [hF] at this
    obtain ⟨x, h'⟩ := p
    simp at this
    subst this
    exact ⟨h', rfl⟩

theorem kids : Kids Tryz.prog (· < Tryz.prog.types.size) := kids_rows facts.laid facts.rowed
theorem lv43 : leaves Tryz.prog 8 43 = some [.int .i64, .int .i64] := by kernel_rfl
theorem s43 : 43 < Tryz.prog.types.size := of_decide_eq_true (by kernel_rfl)

theorem main : ∀ vs, dataA Tryz.prog 8 Tryz.f4.params.toList vs → ∃ h', Triple Tryz.prog 4 vs [] (.bool true) h' := by
  intro vs h
  rw [Tryz.params4] at h
  obtain ⟨cs, r, rfl, hd, h⟩ := dataA_struct Tryz.underlying43 h
  obtain ⟨k, r, rfl, _, h⟩ := dataA_int rfl Tryz.underlying3 h
  cases dataA_nil h
  obtain ⟨⟨a, b, _⟩, hcs, _⟩ := leaves_of kids 8 8 43 _ _ hd lv43 s43
  have hcs : cs = [.int .i64 a, .int .i64 b] := hcs.symm
  subst hcs
  obtain ⟨h', e⟩ := plays a b k
  exact ⟨h', (fine4 _).triple (good4 _) e⟩

theorem own : ownKnob Tryz.prog.godebug = none := by kernel_rfl

theorem lifted (os : Os) (started : os.Started) (H : Type) (enc : TypeId × Value → H) :
    ReturnsInHanded {} Tryz.checked os 4 .any (Rows.nodeNobodySpec.pre6 enc Tryz.prog Tryz.f4 Rows.nodeNobodyRow.domain false) (Rows.nodeNobodySpec.post enc Tryz.prog Tryz.f4 false true false false) := by
  refine returnsInHanded_of_change (C := Tryz.checked) own started (by kernel_rfl) Tryz.func4
    (ChangeSpec.witness6 (enc := enc) (C := Tryz.checked) false ⟨#[], #[.agg #[.int .i64 0, .int .i64 0], .int .i64 0], []⟩ 8 (by kernel_rfl) (by kernel_rfl) (by kernel_rfl) (by kernel_rfl)) ?_
  intro W base args ds gs before hval hW _ _
  exact row_calls (P := Tryz.prog) (fn := Tryz.f4) (n := 8) facts.laid facts.rowed facts.hz rfl Tryz.underlying4 (by kernel_rfl)
    (fun ds h => by
      match ds, h with
      | [_, _], _ => exact ⟨rfl, rfl, rfl⟩) rfl hval hW main

theorem over : Rows.nodeNobodyRow.holds Tryz.pinned (OpenSpec.ofChange Rows.nodeNobodySpec) :=
  OpenClaim.holds_of_wide 4 Tryz.f4 rfl rfl rfl rfl rfl rfl rfl ⟨rfl, rfl, rfl, rfl, rfl⟩ rfl rfl rfl rfl rfl facts.found Tryz.func4 facts.closed
    (of_decide_eq_true (by kernel_rfl)) (by unfold Func.isWrapper; first | (rw [if_pos (by decide +kernel)]; kernel_rfl) | (rw [if_neg (by decide +kernel)]; exact ⟨rfl, rfl⟩))
    (fun os started H enc _ => lifted os started H enc)

/-- ████ THE STATEMENT ████ -/
theorem proved : Rows.NodeNobodySaid :=
  over
#print axioms proved

end Go.Proofs.YtgipaccfnlklcaaGreat.nodeNobody
