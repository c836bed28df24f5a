/- text.Print of the pid <0.1>, as a pure function of its term. -/
import Derived.Test.YtgipaccfnlklcaaGreatDoorg1
import Derived.Test.YtgipaccfnlklcaaGreatDoorW
import Derived.Test.YtgipaccfnlklcaaGreatDoorLD
namespace Go.Proofs.YtgipaccfnlklcaaGreatDoor
open Go Go.L
set_option linter.unusedVariables false
set_option linter.unusedSimpArgs false
set_option maxRecDepth 100000

/-- What was there stays. -/
structure Keeps (w w' : World) : Prop where
  os : w'.os = w.os
  output : w'.output = w.output
  size : w.heap.size ≤ w'.heap.size
  block : ∀ k, k < w.heap.size → w'.heap[k]? = w.heap[k]?

theorem Keeps.trans {a b c : World} (h : Keeps a b) (k : Keeps b c) : Keeps a c :=
  ⟨k.os.trans h.os, k.output.trans h.output, Nat.le_trans h.size k.size, fun i hi => (k.block i (Nat.lt_of_lt_of_le hi h.size)).trans (h.block i hi)⟩

abbrev pidT : Value := .agg #[.int .i64 6, .int .i64 0, .complex .f64 0 0, .string ⟨#[]⟩, .int .i64 0, .int .i64 1, .slice none 0 0]
abbrev pidV : V := .agg [.int .i64 6, .int .i64 0, .cplx .f64 0 0, .str ⟨#[]⟩, .int .i64 0, .int .i64 1, .nils]

theorem check_run : ∃ h', F69 100 (6, 0, (0, 0), ByteArray.mk #[], 0, 1, .nils, []) = some (0, h') := by
  have : (F69 100 (6, 0, (0, 0), ByteArray.mk #[], 0, 1, .nils, [])).map (·.1) = some 0 := by kernel_rfl
  cases hF : F69 100 (6, 0, (0, 0), ByteArray.mk #[], 0, 1, .nils, []) with
  | none => rw [hF] at this; cases this
  | some p =>
    rw [hF] at this
    obtain ⟨x, h'⟩ := p
    simp at this
    subst this
    exact ⟨h', rfl⟩

theorem pid_rel (ρ : Ren) : RelV ρ pidV pidT := by
  refine .agg _ _ rfl ?_ ?_
  · intro i v x hv hx
    match i with
    | 0 => cases hv; cases hx; exact .int _ _
    | 1 => cases hv; cases hx; exact .int _ _
    | 2 => cases hv; cases hx; exact .cplx _ _ _
    | 3 => cases hv; cases hx; exact .str _
    | 4 => cases hv; cases hx; exact .int _ _
    | 5 => cases hv; cases hx; exact .int _ _
    | 6 => cases hv; cases hx; exact .nils
    | i + 7 => simp at hv
  · intro i x hx
    match i with
    | 0 => cases hx; rfl
    | 1 => cases hx; rfl
    | 2 => cases hx; rfl
    | 3 => cases hx; rfl
    | 4 => cases hx; rfl
    | 5 => cases hx; rfl
    | 6 => cases hx; rfl
    | i + 7 => simp at hx

theorem check_calls (w : World) : Calls Tryz.prog 69 #[pidT] w fun e w' => e = .returned (.int .i64 0) ∧ Keeps w w' := by
  obtain ⟨h', hF⟩ := check_run
  have ht := (fine69 100).triple (good69 100) hF
  refine (ht (Ren.all w) w #[pidT] (relH_all w) rfl ?_).mono fun e w' he => ?_
  · intro i a x ha hx
    match i with
    | 0 => cases ha; cases hx; exact pid_rel _
    | i + 1 => simp [decVs] at ha
  · obtain ⟨ρ', x, rfl, hh, hs, hx⟩ := he
    cases hx
    exact ⟨rfl, hs.still.os, hs.still.output, hs.size, fun b hb => step_all hs hh hb⟩

end Go.Proofs.YtgipaccfnlklcaaGreatDoor
