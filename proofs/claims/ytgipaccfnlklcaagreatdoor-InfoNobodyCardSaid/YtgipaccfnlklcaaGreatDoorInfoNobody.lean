/- PROVED: 'carousellaw29.InfoNobody' answers true for every pid and every class, and the arguments read afterwards as before: the tied card. The row lists three package variables of Go's library (tables of math/bits and internal/strconv), which the card ties to the program's text. -/
import Derived.Test.YtgipaccfnlklcaaGreatDoorLC
import Derived.Test.YtgipaccfnlklcaaGreatDoorp
import Derived.Test.YtgipaccfnlklcaaGreatDoorF
import Derived.Test.YtgipaccfnlklcaaGreatDoorRows
import Derived.Test.YtgipaccfnlklcaaGreatDoorTie
import Derived.Test.YtgipaccfnlklcaaGreatDoorCards
import Derived.WalkKit
import Derived.ProofKit
import Derived.OpenShut
import Derived.JoinedCond
import Derived.Handy
import Derived.Lay
import Derived.SevenTiedAt
namespace Go.Proofs.YtgipaccfnlklcaaGreatDoor.infoNobody
open Go.L Go.ChangeShapes Go.WideShapes Go.ChangeAt Go.RowKit
set_option linter.unusedVariables false
set_option linter.unusedSimpArgs false
set_option maxRecDepth 100000

theorem plays (a b k : Int) : ∃ h', F3 100 (a, b, k, []) = some (true, h') := by
  have := bothI a b k
  cases hF : F3 100 (a, b, k, []) with
  | none => rw [hF] at this; cases this
  | some p =>
    rw [hF] at this
    obtain ⟨x, h'⟩ := p
    simp at this
    subst this
    exact ⟨h', rfl⟩

theorem kids : Kids Tryz.prog (· < Tryz.prog.types.size) := kids_rows facts.laid facts.rowed
theorem lv23 : leaves Tryz.prog 8 23 = some [.int .i64, .int .i64] := by kernel_rfl
theorem s23 : 23 < Tryz.prog.types.size := of_decide_eq_true (by kernel_rfl)

theorem main : ∀ vs, dataA Tryz.prog 8 Tryz.f3.params.toList vs → ∃ h', Triple Tryz.prog 3 vs [] (.bool true) h' := by
  intro vs h
  rw [Tryz.params3] at h
  obtain ⟨cs, r, rfl, hd, h⟩ := dataA_struct Tryz.underlying23 h
  obtain ⟨k, r, rfl, _, h⟩ := dataA_int rfl Tryz.underlying3 h
  cases dataA_nil h
  obtain ⟨⟨a, b, _⟩, hcs, _⟩ := leaves_of kids 8 8 23 _ _ hd lv23 s23
  have hcs : cs = [.int .i64 a, .int .i64 b] := hcs.symm
  subst hcs
  obtain ⟨h', e⟩ := plays a b k
  exact ⟨h', (fine3 _).triple (good3 _) e⟩

theorem own : ownKnob Tryz.prog.godebug = none := by kernel_rfl

theorem lifted (os : Os) (started : os.Started) (H : Type) (enc : TypeId × Value → H) :
    ReturnsInHanded {} Tryz.checked os 3 .any (fun w args => (Rows.infoNobodySpec.pre enc Tryz.prog Tryz.f3 [] false w args ∧ laidMetH Tryz.prog Rows.infoNobodyRow.laid w) ∧ sizedMet enc Tryz.prog Tryz.f3 (OpenSpec.ofChange Rows.infoNobodySpec) false w args)
      (Rows.infoNobodySpec.post enc Tryz.prog Tryz.f3 false true false false) := by
  refine returnsInHanded_of_change_and (C := Tryz.checked) (X := fun w _ => laidMetH Tryz.prog Rows.infoNobodyRow.laid w) (fun _ _ _ hh h => h.of_heap hh) own started (by kernel_rfl) Tryz.func3
    (ChangeSpec.witness_shaped (enc := enc) (C := Tryz.checked) (os := os) (X := fun w _ => laidMetH Tryz.prog Rows.infoNobodyRow.laid w) false (World.laidAll Tryz.prog os Rows.infoNobodyRow.laid) #[.agg #[.int .i64 0, .int .i64 0], .int .i64 0] 8 (World.laidAll_os _ _ _)
      (World.shaped_of_ZipB (by kernel_rfl) (by kernel_rfl)) (by kernel_rfl) (by kernel_rfl) (by kernel_rfl)
      (by rw [MakeChecks.laidMetH_plain _ _ _ (by kernel_rfl)]; exact laidMet_laidAll _ (by kernel_rfl) (by kernel_rfl))) ?_
  intro W base args ds gs before hval hW _ _ _ _
  exact row_calls (P := Tryz.prog) (fn := Tryz.f3) (n := 8) facts.laid facts.rowed facts.hz rfl Tryz.underlying4 (by kernel_rfl)
    (fun ds h => by
      match ds, h with
      | [_, _], _ => exact ⟨rfl, rfl, rfl⟩) rfl hval hW main

theorem over : Rows.infoNobodyRow.holds Tryz.pinned (OpenSpec.ofChange Rows.infoNobodySpec) :=
  OpenClaim.holds_of_wide 3 Tryz.f3 rfl rfl rfl rfl rfl rfl rfl ⟨rfl, rfl, rfl, rfl, rfl⟩ rfl rfl rfl rfl rfl facts.found Tryz.func3 facts.closed
    (of_decide_eq_true (by kernel_rfl)) (by unfold Func.isWrapper; first | (rw [if_pos (by decide +kernel)]; kernel_rfl) | (rw [if_neg (by decide +kernel)]; exact ⟨rfl, rfl⟩))
    (fun os started H enc _ => lifted os started H enc)

/-- ████ THE STATEMENT: THE TIED CARD ████ -/
theorem proved : Rows.InfoNobodyCardSaid :=
  Claim7.holds_tied_plain_at .later [] [.data, .data, .data] true (true, "4134e172acee4b0d1e53fcba021d622684cbdf80d4acd9c32d1920829b30cc4a") false over (fun _ h => by cases h) (by kernel_rfl) (fun _ h => by cases h) infoNobody_row_tie rfl ⟨rfl, rfl⟩ (by kernel_rfl) rfl
    (fun f fn hf hfn => by
      obtain rfl : f = 3 := Option.some.inj (facts.found.symm.trans hf) |>.symm
      obtain rfl : fn = Tryz.f3 := (Option.some.inj (Tryz.func3.symm.trans hfn)).symm
      exact ⟨by kernel_rfl, fun j t ht => by
        rw [Tryz.params3] at ht
        have hm : t ∈ [23, 3] := by simpa using Array.mem_of_getElem? ht
        have hall : ([23, 3].all fun u => !Tryz.prog.wantsStandIn u) = true := by kernel_rfl
        exact (show Tryz.prog.wantsStandIn t = false by simpa using List.all_eq_true.1 hall t hm)⟩)
    (by kernel_rfl)
#print axioms proved

end Go.Proofs.YtgipaccfnlklcaaGreatDoor.infoNobody
