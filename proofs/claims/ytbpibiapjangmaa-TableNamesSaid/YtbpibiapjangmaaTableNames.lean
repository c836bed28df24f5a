/- PROVED: 'carousellaw14.TableNames' answers true for every list of namings, and the argument read afterwards as before. No condition. -/
import Derived.Test.YtbpibiapjangmaaL38
import Derived.Test.YtbpibiapjangmaaTabC
import Derived.Test.YtbpibiapjangmaaRows
import Derived.WalkKit
import Derived.ProofKit
import Derived.OpenShut
namespace Go.Proofs.Ytbpibiapjangmaa.tableNames
open Go.L Go.ChangeShapes Go.WideShapes Go.ChangeAt Go.RowKit Go.Proofs.Ytbpibiapjangmaa.tabs
set_option linter.unusedVariables false
set_option linter.unusedSimpArgs false

theorem awake : ∃ h', F30 100 [] = some (true, h') := by
  have : (F30 100 []).map (·.1) = some true := by kernel_rfl
  cases hF : F30 100 [] with
  | none => rw [hF] at this; cases this
  | some p =>
    rw [hF] at this
    obtain ⟨x, h'⟩ := p
    simp at this
    subst this
    exact ⟨h', rfl⟩

theorem plays {N : Nat} (E : List Nm) (hE : E.length ≤ 9223372036854775807) (hN : E.length < N) (hN2 : 300 ≤ N) : ∃ h', F5 N (nms E, []) = some (true, h') := by
  obtain ⟨hw, aw⟩ := awake
  obtain ⟨h1, e1, T1, _, _⟩ := newT N [] (n := 8) (by omega) (by omega)
  have e1' : F23 N (8, []) = some (pt 2, 0, h1) := e1
  have T1' : Tab 0 1 2 h1 (slots8 0) [] := T1
  obtain ⟨h2, l, e2, T2, O2, oa, ob, oc⟩ := comeL N hN2 (nms E) 8 N 0 h1 .nils (by omega) (by omega) T1' .nil (by simp [oid]) (by simp [oid]) (by simp [oid])
  have e2' : L5_0 N N (nms E, pt 2, .nils, 0, h1) = _ := e2
  have v : Inv (slots8 8) [] := by
    refine ⟨slots8_len (by omega), fun i hi => ?_, fun i hi h1 h2 => ?_, rfl⟩
    · rw [slots8_get (by omega), if_pos (by rw [slots8_len (by omega)] at hi; exact hi)]
    · rw [slots8_get (by omega), if_pos (by rw [slots8_len (by omega)] at hi; exact hi)] at h2; exact absurd rfl h2
  obtain ⟨h3, e3⟩ := namesL N hN2 E hE oa ob E.length N 0 h2 _ _ (by omega) (by omega) T2 v O2.sl'
  have e3' : L5_1 N N (nms E, pt 2, l, 0, h2) = _ := e3
  refine ⟨h3, ?_⟩
  rw [F5]
  simp only [e1', bs, show ((0 : Int) != 0) = false from rfl, itT, itF, ifT, ifF, pnil, e2', e3', aw]

theorem kids : Kids Try.prog (· < Try.prog.types.size) := kids_rows (by kernel_rfl) (by kernel_rfl)
theorem lv55 : leaves Try.prog 8 55 = some [.int .i64, .str, .bool] := by kernel_rfl
theorem c55 : Try.prog.cellsOf 55 = 3 := by kernel_rfl
theorem s55 : 55 < Try.prog.types.size := of_decide_eq_true (by kernel_rfl)

set_option maxRecDepth 100000 in
theorem nm_of {x : V} (h : dataV Try.prog 7 55 x.cells ∧ x = mkE (Try.prog.cellsOf 55) x.cells) : ∃ e : Nm, x = .agg e.cs := by
  obtain ⟨hd, hx⟩ := h
  obtain ⟨⟨a, b, c, _⟩, hcs, _⟩ := leaves_of kids 7 8 55 _ _ hd lv55 s55
  rw [c55] at hx
  refine ⟨⟨a, b, c⟩, ?_⟩
  rw [hx, ← hcs]
  rfl

set_option maxRecDepth 100000 in
theorem main : ∀ vs, dataA Try.prog 8 Try.f5.params.toList vs → ∃ h', Triple Try.prog 5 vs [] (.bool true) h' := by
  intro vs h
  rw [Try.params5] at h
  obtain ⟨xs, r, rfl, hl, hxs, h⟩ := dataA_slice rfl Try.underlying44 h
  cases dataA_nil h
  obtain ⟨E, rfl⟩ := list_of (g := fun e : Nm => V.agg e.cs) fun x hx => nm_of (hxs x hx)
  have hE : E.length ≤ 9223372036854775807 := by rw [List.length_map] at hl; exact hl
  obtain ⟨h', e⟩ := plays (N := E.length + 300) E hE (by omega) (by omega)
  rw [c55]
  exact ⟨h', (fine5 _).triple (good5 _) e⟩


theorem own : ownKnob Try.prog.godebug = none := by kernel_rfl

set_option maxRecDepth 100000 in
theorem lifted (os : Os) (started : os.Started) (H : Type) (enc : TypeId × Value → H) :
    ReturnsInHanded {} Try.checked os 5 .any (Rows.tableNamesSpec.pre6 enc Try.prog Try.f5 Rows.tableNamesRow.domain false) (Rows.tableNamesSpec.post enc Try.prog Try.f5 false true false false) := by
  refine returnsInHanded_of_change (C := Try.checked) own started (by kernel_rfl) Try.func5
    (ChangeSpec.witness6 (enc := enc) (C := Try.checked) false ⟨#[], #[.slice none 0 0], []⟩ 8 (by kernel_rfl) (by kernel_rfl) (by kernel_rfl) (by kernel_rfl)) ?_
  intro W base args ds gs before hval hW _ _
  exact row_calls (P := Try.prog) (fn := Try.f5) (n := 8) (by kernel_rfl) (by kernel_rfl) (by kernel_rfl) rfl Try.underlying4 (by kernel_rfl)
    (fun ds h => by
      match ds, h with
      | [_], _ => exact ⟨rfl, rfl, rfl⟩) rfl hval hW main

theorem over : Rows.tableNamesRow.holds Try.pinned (OpenSpec.ofChange Rows.tableNamesSpec) :=
  OpenClaim.holds_of_wide 5 Try.f5 rfl rfl rfl rfl rfl rfl rfl ⟨rfl, rfl, rfl, rfl, rfl⟩ rfl rfl rfl rfl rfl (by kernel_rfl) Try.func5 (by kernel_rfl)
    (of_decide_eq_true (by kernel_rfl)) (by unfold Func.isWrapper; first | (rw [if_pos (by decide +kernel)]; kernel_rfl) | (rw [if_neg (by decide +kernel)]; exact ⟨rfl, rfl⟩))
    (fun os started H enc _ => lifted os started H enc)

/-- ████ THE STATEMENT ████ -/
theorem proved : Rows.TableNamesSaid :=
  over
#print axioms proved

end Go.Proofs.Ytbpibiapjangmaa.tableNames
