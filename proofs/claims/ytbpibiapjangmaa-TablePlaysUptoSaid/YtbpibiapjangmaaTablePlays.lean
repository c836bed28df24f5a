/- PROVED: 'carousellaw14.TablePlays' answers true for every script of steps that together hold at most 1048576 values and letters, and the argument reads afterwards as before. -/
import Derived.Test.YtbpibiapjangmaaL38
import Derived.Test.YtbpibiapjangmaaTabU
import Derived.Test.YtbpibiapjangmaaRows
import Derived.WalkKit
import Derived.ProofKit
import Derived.OpenShut
import Derived.JoinedCond
namespace Go.Proofs.Ytbpibiapjangmaa.tablePlays
open Go.L Go.ChangeShapes Go.WideShapes Go.ChangeAt Go.RowKit Go.Proofs.Ytbpibiapjangmaa.tabs
set_option linter.unusedVariables false
set_option linter.unusedSimpArgs false

theorem awake : ∃ h', F30 100 [] = some (true, h') := by
  have : (F30 100 []).map (·.1) = some true := by kernel_rfl
  cases hF : F30 100 [] with
  | none => rw [hF] at this; cases this
  | some p =>
    rw [hF] at this
    obtain ⟨x, h'⟩ := p
    simp at this
    subst this
    exact ⟨h', rfl⟩

theorem kids : Kids Try.prog (· < Try.prog.types.size) := kids_rows (by kernel_rfl) (by kernel_rfl)
theorem lvOp : leaves Try.prog 8 127 = some [.int .i64, .int .i64, .int .i64, .int .i64, .int .i64, .int .i64, .int .i64, .str] := by kernel_rfl
theorem cOp : Try.prog.cellsOf 127 = 8 := by kernel_rfl
theorem sOp : 127 < Try.prog.types.size := of_decide_eq_true (by kernel_rfl)

set_option maxRecDepth 100000 in
theorem op_of {x : V} (h : dataV Try.prog 7 127 x.cells ∧ x = mkE (Try.prog.cellsOf 127) x.cells) : ∃ e : tabs.Op, x = .agg e.cs := by
  obtain ⟨hd, hx⟩ := h
  obtain ⟨⟨a, b, c, d, e, f, g, s, _⟩, hcs, _⟩ := leaves_of kids 7 8 127 _ _ hd lvOp sOp
  rw [cOp] at hx
  refine ⟨⟨a, b, c, d, e, f, g, s⟩, ?_⟩
  rw [hx, ← hcs]
  rfl

set_option maxRecDepth 100000 in
theorem main : ∀ vs, dataA Try.prog 8 Try.f12.params.toList vs → V.szs vs ≤ 1048576 → ∃ h', Triple Try.prog 12 vs [] (.bool true) h' := by
  intro vs h hb
  rw [Try.params12] at h
  obtain ⟨xs, r, rfl, _, hxs, h⟩ := dataA_slice rfl Try.underlying118 h
  cases dataA_nil h
  obtain ⟨Q, rfl⟩ := list_of (g := fun e : tabs.Op => V.agg e.cs) fun x hx => op_of (hxs x hx)
  have hQ : Q.length ≤ V.szs (Q.map fun e : tabs.Op => V.agg e.cs) := by
    have := szs_le (xs := Q.map fun e : tabs.Op => V.agg e.cs) (by
      intro x hx
      obtain ⟨e, _, rfl⟩ := List.mem_map.1 hx
      simp [V.sz, V.szs, tabs.Op.cs] <;> omega)
    rwa [List.length_map] at this
  simp only [V.szs, V.sz] at hb
  obtain ⟨N, hN⟩ : ∃ N, 1048600 ≤ N := ⟨_, Nat.le_refl _⟩
  obtain ⟨h', e⟩ := script hN Q (by omega) awake
  rw [cOp]
  exact ⟨h', (fine12 N).triple (good12 N) e⟩


theorem own : ownKnob Try.prog.godebug = none := by kernel_rfl

theorem all_sum {H : Type} : ∀ l : List (DataW H), (l.map Rows.uptoBulk).sum = Rows.uptoBulkAll l
  | [] => by simp [Rows.uptoBulkAll]
  | d :: r => by simp [Rows.uptoBulkAll, all_sum r]

theorem muOk {H : Type} : MuOk (Rows.uptoBulk (H := H)) where
  one d := by
    cases d with
    | lit l => cases l <;> simp [Rows.uptoBulk]
    | _ => simp [Rows.uptoBulk]
  str l := by simp [Rows.uptoBulk]
  slice es sp := by rw [all_sum]; simp only [Rows.uptoBulk]; omega
  agg ps := by rw [all_sum]; simp only [Rows.uptoBulk]; omega

theorem bound {H : Type} {l : List (DataW H)} (hk : Rows.uptoSmall H l = true) : (l.map Rows.uptoBulk).sum ≤ 1048576 := by
  rw [all_sum]
  exact of_decide_eq_true hk

set_option maxRecDepth 100000 in
theorem lifted (os : Os) (started : os.Started) (H : Type) (enc : TypeId × Value → H) (F : Stop.Interp) :
    ReturnsInHanded {} Try.checked os 12 .any ((Rows.OpenSpec.upto Rows.tablePlaysSpec).pre6 enc Try.prog Try.f12 Rows.tablePlaysUptoRow.domain false) (((Rows.OpenSpec.upto Rows.tablePlaysSpec).at F).post enc Try.prog Try.f12 false true false false) := by
  refine returnsInHanded_of_cond (C := Try.checked) (s := Rows.OpenSpec.upto Rows.tablePlaysSpec) (k := Rows.uptoSmall) rfl own started (by kernel_rfl) Try.func12
    (OpenSpec.witness (enc := enc) (C := Try.checked) (s := Rows.OpenSpec.upto Rows.tablePlaysSpec) (k := Rows.uptoSmall) rfl false ⟨#[], #[.slice none 0 0], []⟩ 8 (by kernel_rfl) (by kernel_rfl) (by kernel_rfl)
      (x := ([.nil], [], [])) (by kernel_rfl) rfl (by kernel_rfl)) ?_
  intro W base args ds gs before hval hW _ hk _
  have hgs : gs = [] := by
    obtain ⟨p, q, _, hV, _⟩ := hW
    exact (trodVars_none hV).1
  subst hgs
  rw [List.append_nil] at hk
  exact row_callsU (P := Try.prog) (fn := Try.f12) (s := Rows.tablePlaysSpec) (n := 8) (by kernel_rfl) (by kernel_rfl) (by kernel_rfl) rfl Try.underlying4 (by kernel_rfl)
    (fun ds h => by
      match ds, h with
      | [_], _ => exact ⟨rfl, rfl, rfl⟩) rfl hval hW (fun vs h hb => main vs h (Nat.le_trans (hb _ muOk) (bound hk)))

theorem over : Rows.tablePlaysUptoRow.holds Try.pinned (Rows.OpenSpec.upto Rows.tablePlaysSpec) :=
  OpenClaim.holds_of_cond 12 Try.f12 rfl rfl rfl rfl rfl rfl rfl ⟨rfl, rfl, rfl, rfl, rfl⟩ rfl rfl rfl rfl rfl (by kernel_rfl) Try.func12 (by kernel_rfl)
    (of_decide_eq_true (by kernel_rfl)) (by unfold Func.isWrapper; first | (rw [if_pos (by decide +kernel)]; kernel_rfl) | (rw [if_neg (by decide +kernel)]; exact ⟨rfl, rfl⟩))
    (fun os started H enc _ F => lifted os started H enc F)

/-- ████ THE STATEMENT ████ -/
theorem proved : Rows.TablePlaysUptoSaid :=
  over
#print axioms proved

end Go.Proofs.Ytbpibiapjangmaa.tablePlays
