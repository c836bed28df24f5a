/- PROVED: 'carousellaw23.FairWorst' answers true for every wheel, every list of waits and every number ahead, and the arguments read afterwards as before. No condition. -/
import Derived.Test.YtkhnngghmlpbeaaGreatLC
import Derived.Test.YtkhnngghmlpbeaaGreatp
import Derived.Test.YtkhnngghmlpbeaaGreatj1
import Derived.Test.YtkhnngghmlpbeaaGreatF
import Derived.Test.YtkhnngghmlpbeaaGreatRows
import Derived.WalkKit
import Derived.ProofKit
import Derived.OpenShut
import Derived.JoinedCond
namespace Go.Proofs.YtkhnngghmlpbeaaGreat.fairWorst
open Go.L Go.ChangeShapes Go.WideShapes Go.ChangeAt Go.RowKit
set_option linter.unusedVariables false
set_option linter.unusedSimpArgs false
set_option maxRecDepth 100000

theorem awake : ∃ h', F17 2000 [] = some (true, h') := by
  have : (F17 2000 []).map (·.1) = some true := by kernel_rfl
  cases hF : F17 2000 [] with
  | none => rw [hF] at this; cases this
  | some p =>
    rw [hF] at this
    obtain ⟨x, h'⟩ := p
    simp at this
    subst this
    exact ⟨h', rfl⟩

theorem plays (w : Int) (E : List Wt) (hE : E.length ≤ 9223372036854775807) (a : Int) : ∃ h', F4 (E.length + 2) (w, wl E, a, []) = some (true, h') := by
  obtain ⟨hw, aw⟩ := awake
  obtain ⟨x, y, e1, e2⟩ := alike w E hE []
  refine ⟨[], ?_⟩
  rw [F4]
  have c (z : Int) : (z == z) = true := by simp
  simp only [e1, e2, bs, c, itT, if_true, f15, f16, aw]

theorem kids : Kids Tryz.prog (· < Tryz.prog.types.size) := kids_rows facts.laid facts.rowed
theorem lv89 : leaves Tryz.prog 8 89 = some [.int .i64, .int .i64, .int .i64, .int .i64, .int .i64, .int .i64, .bool] := by kernel_rfl
theorem c89 : Tryz.prog.cellsOf 89 = 7 := by kernel_rfl
theorem s89 : 89 < Tryz.prog.types.size := of_decide_eq_true (by kernel_rfl)

theorem wt_of {x : V} (h : dataV Tryz.prog 7 89 x.cells ∧ x = mkE (Tryz.prog.cellsOf 89) x.cells) : ∃ e : Wt, x = .agg e.cs := by
  obtain ⟨hd, hx⟩ := h
  obtain ⟨⟨a, b, c, d, e, f, g, _⟩, hcs, _⟩ := leaves_of kids 7 8 89 _ _ hd lv89 s89
  rw [c89] at hx
  refine ⟨⟨a, b, c, d, e, f, g⟩, ?_⟩
  rw [hx, ← hcs]
  rfl

theorem main : ∀ vs, dataA Tryz.prog 8 Tryz.f4.params.toList vs → ∃ h', Triple Tryz.prog 4 vs [] (.bool true) h' := by
  intro vs h
  rw [Tryz.params4] at h
  obtain ⟨w, r, rfl, _, h⟩ := dataA_int rfl Tryz.underlying3 h
  obtain ⟨xs, r, rfl, hl, hxs, h⟩ := dataA_slice rfl Tryz.underlying51 h
  obtain ⟨a, r, rfl, _, h⟩ := dataA_int rfl Tryz.underlying3 h
  cases dataA_nil h
  obtain ⟨E, rfl⟩ := list_of (g := fun e : Wt => V.agg e.cs) fun x hx => wt_of (hxs x hx)
  rw [List.length_map] at hl
  have hE : E.length ≤ 9223372036854775807 := by simpa [maxLen] using hl
  obtain ⟨h', e⟩ := plays w E hE a
  rw [c89]
  exact ⟨h', (fine4 _).triple (good4 _) e⟩

theorem own : ownKnob Tryz.prog.godebug = none := by kernel_rfl

theorem lifted (os : Os) (started : os.Started) (H : Type) (enc : TypeId × Value → H) :
    ReturnsInHanded {} Tryz.checked os 4 .any (Rows.fairWorstSpec.pre6 enc Tryz.prog Tryz.f4 Rows.fairWorstRow.domain false) (Rows.fairWorstSpec.post enc Tryz.prog Tryz.f4 false true false false) := by
  refine returnsInHanded_of_change (C := Tryz.checked) own started (by kernel_rfl) Tryz.func4
    (ChangeSpec.witness6 (enc := enc) (C := Tryz.checked) false ⟨#[], #[.int .i64 0, .slice none 0 0, .int .i64 0], []⟩ 8 (by kernel_rfl) (by kernel_rfl) (by kernel_rfl) (by kernel_rfl)) ?_
  intro W base args ds gs before hval hW _ _
  exact row_calls (P := Tryz.prog) (fn := Tryz.f4) (n := 8) facts.laid facts.rowed facts.hz rfl Tryz.underlying4 (by kernel_rfl)
    (fun ds h => by
      match ds, h with
      | [_, _, _], _ => exact ⟨rfl, rfl, rfl⟩) rfl hval hW main

theorem over : Rows.fairWorstRow.holds Tryz.pinned (OpenSpec.ofChange Rows.fairWorstSpec) :=
  OpenClaim.holds_of_wide 4 Tryz.f4 rfl rfl rfl rfl rfl rfl rfl ⟨rfl, rfl, rfl, rfl, rfl⟩ rfl rfl rfl rfl rfl facts.found Tryz.func4 facts.closed
    (of_decide_eq_true (by kernel_rfl)) (by unfold Func.isWrapper; first | (rw [if_pos (by decide +kernel)]; kernel_rfl) | (rw [if_neg (by decide +kernel)]; exact ⟨rfl, rfl⟩))
    (fun os started H enc _ => lifted os started H enc)

/-- ████ THE STATEMENT ████ -/
theorem proved : Rows.FairWorstSaid :=
  over
#print axioms proved

end Go.Proofs.YtkhnngghmlpbeaaGreat.fairWorst
