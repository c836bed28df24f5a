/- PROVED: 'carousellaw24.ImageNil' answers true for every text, and the argument reads afterwards as before. No condition. -/
import Derived.Test.YtgipaccfnlklcaaGreatLC
import Derived.Test.YtgipaccfnlklcaaGreatp
import Derived.Test.YtgipaccfnlklcaaGreatF
import Derived.Test.YtgipaccfnlklcaaGreatRows
import Derived.WalkKit
import Derived.ProofKit
import Derived.OpenShut
import Derived.JoinedCond
import Derived.SizedLaws
namespace Go.Proofs.YtgipaccfnlklcaaGreat.imageNil
open Go.L Go.ChangeShapes Go.WideShapes Go.ChangeAt Go.RowKit
set_option linter.unusedVariables false
set_option linter.unusedSimpArgs false
set_option maxRecDepth 100000

theorem main : ∀ vs, dataA Tryz.prog 8 Tryz.f3.params.toList vs → V.szs vs ≤ reachBytes + 1 → ∃ h', Triple Tryz.prog 3 vs [] (.bool true) h' := by
  intro vs h hb
  rw [Tryz.params3] at h
  obtain ⟨s, r, rfl, hs, h⟩ := dataA_str rfl Tryz.underlying9 h
  cases dataA_nil h
  have hr : reachBytes = 140737488351232 := rfl
  simp only [V.szs, V.sz] at hb
  obtain ⟨h', e⟩ := bothM s (by omega)
  exact ⟨h', (fine3 _).triple (good3 _) e⟩

theorem own : ownKnob Tryz.prog.godebug = none := by kernel_rfl

theorem all_sum {H : Type} : ∀ l : List (DataW H), (l.map Rows.uptoBulk).sum = Rows.uptoBulkAll l
  | [] => by simp [Rows.uptoBulkAll]
  | d :: r => by simp [Rows.uptoBulkAll, all_sum r]

theorem muOk {H : Type} : MuOk (Rows.uptoBulk (H := H)) where
  one d := by
    cases d with
    | lit l => cases l <;> simp [Rows.uptoBulk]
    | _ => simp [Rows.uptoBulk]
  str l := by simp [Rows.uptoBulk]
  slice es sp := by rw [all_sum]; simp only [Rows.uptoBulk]; omega
  agg ps := by rw [all_sum]; simp only [Rows.uptoBulk]; omega

theorem bound {H : Type} {enc : TypeId × Value → H} {W : World} {args : Array Value} {ds gs : List (DataW H)} {before : List MemPlace} (hW : DataW.Whole enc Tryz.prog Tryz.f3.params.toList Rows.imageNilSpec.vars false W args.toList ds gs before)
    (hwt : (DataW.weightsEach Tryz.prog (Tryz.f3.params.toList ++ Rows.imageNilSpec.plain.varTypes Tryz.prog) (ds ++ gs)).all (· ≤ reachBytes) = true) : (ds.map Rows.uptoBulk).sum ≤ reachBytes + 1 := by
  obtain ⟨p, q, hA, _⟩ := hW
  rw [Tryz.params3] at hA hwt
  generalize args.toList = vs at hA
  match vs, ds, hA with
  | [v], [d], hA =>
    obtain ⟨p', q', ⟨fuel, h1⟩, _⟩ := hA
    obtain ⟨s, _, hx, _⟩ := DataW.trod_string Tryz.underlying9 h1
    have hd : d = .lit (.string s.data.toList) := congrArg Prod.fst hx
    subst hd
    simp only [List.cons_append, DataW.weightsEach, DataW.weights, List.nil_append, List.all_cons, Bool.and_eq_true, decide_eq_true_eq] at hwt
    simp only [List.map_cons, List.map_nil, List.sum_cons, List.sum_nil, Rows.uptoBulk]
    omega
  | [], [], hA => simp
  | [], _ :: _, hA => exact hA.elim
  | _ :: _, [], hA => exact hA.elim
  | [_], _ :: _ :: _, ⟨_, _, _, h2, _⟩ => exact h2.elim
  | _ :: _ :: _, [_], ⟨_, _, _, h2, _⟩ => exact h2.elim
  | _ :: _ :: _, _ :: _ :: _, ⟨_, _, _, h2, _⟩ => exact h2.elim

theorem lifted (os : Os) (started : os.Started) (H : Type) (enc : TypeId × Value → H) :
    ReturnsInHanded {} Tryz.checked os 3 .any (Rows.imageNilSpec.pre6 enc Tryz.prog Tryz.f3 Rows.imageNilRow.domain false) (Rows.imageNilSpec.post enc Tryz.prog Tryz.f3 false true false false) := by
  refine returnsInHanded_of_change_sized (C := Tryz.checked) own started (by kernel_rfl) Tryz.func3
    (ChangeSpec.witness6 (enc := enc) (C := Tryz.checked) false ⟨#[], #[.string ⟨#[]⟩], []⟩ 8 (by kernel_rfl) (by kernel_rfl) (by kernel_rfl) (by kernel_rfl)) ?_
  intro W base args ds gs before hval hW _ hwt _
  exact row_callsU (P := Tryz.prog) (fn := Tryz.f3) (n := 8) facts.laid facts.rowed facts.hz rfl Tryz.underlying4 (by kernel_rfl)
    (fun ds h => by
      match ds, h with
      | [_], _ => exact ⟨rfl, rfl, rfl⟩) rfl hval hW (fun vs h hb => main vs h (Nat.le_trans (hb _ muOk) (bound hW hwt)))

theorem over : Rows.imageNilRow.holds Tryz.pinned (OpenSpec.ofChange Rows.imageNilSpec) :=
  OpenClaim.holds_of_wide 3 Tryz.f3 rfl rfl rfl rfl rfl rfl rfl ⟨rfl, rfl, rfl, rfl, rfl⟩ rfl rfl rfl rfl rfl facts.found Tryz.func3 facts.closed
    (of_decide_eq_true (by kernel_rfl)) (by unfold Func.isWrapper; first | (rw [if_pos (by decide +kernel)]; kernel_rfl) | (rw [if_neg (by decide +kernel)]; exact ⟨rfl, rfl⟩))
    (fun os started H enc _ => lifted os started H enc)

/-- ████ THE STATEMENT ████ -/
theorem proved : Rows.ImageNilSaid :=
  over
#print axioms proved

end Go.Proofs.YtgipaccfnlklcaaGreat.imageNil
