/- Arguments, opened by their types. -/
import Derived.Test.YtkhnngghmlpbeaaGreatL34
namespace Go.L
noncomputable section
open Go

section
variable {P : Program} {n m : Nat} {t : TypeId} {ts : List TypeId} {as : List V}

theorem dataA_nil (h : dataA P n [] as) : as = [] := h

theorem dataA_int (hm : m = n + 1) {k : IntKind} (hu : P.underlying t = some (.int k)) (h : dataA P m (t :: ts) as) : ∃ z r, as = .int k z :: r ∧ (Lit.int k z).wf = true ∧ dataA P m ts r := by
  subst hm
  obtain ⟨cs, r, rfl, h1, h2⟩ := h
  unfold dataV at h1
  rw [hu] at h1
  obtain ⟨m, rfl, hw⟩ := h1
  exact ⟨m, r, by simp [argV, hu], hw, h2⟩

theorem dataA_str (hm : m = n + 1) (hu : P.underlying t = some .string) (h : dataA P m (t :: ts) as) : ∃ s r, as = .str s :: r ∧ s.size ≤ maxLen ∧ dataA P m ts r := by
  subst hm
  obtain ⟨cs, r, rfl, h1, h2⟩ := h
  unfold dataV at h1
  rw [hu] at h1
  obtain ⟨m, rfl, hw⟩ := h1
  exact ⟨m, r, by simp [argV, hu], hw, h2⟩

theorem dataA_slice (hm : m = n + 1) {e : TypeId} (hu : P.underlying t = some (.slice e)) (h : dataA P m (t :: ts) as) :
    ∃ xs r, as = .rs (P.cellsOf e) xs :: r ∧ xs.length ≤ maxLen ∧ (∀ x ∈ xs, dataV P n e x.cells ∧ x = mkE (P.cellsOf e) x.cells) ∧ dataA P m ts r := by
  subst hm
  obtain ⟨cs, r, rfl, h1, h2⟩ := h
  unfold dataV at h1
  rw [hu] at h1
  obtain ⟨xs, rfl, h3, h4⟩ := h1
  exact ⟨xs, r, by simp [argV, hu], h3, h4, h2⟩

theorem dataA_struct {fs : Array Field} (hu : P.underlying t = some (.struct fs)) (h : dataA P n (t :: ts) as) :
    ∃ cs r, as = .agg cs :: r ∧ dataV P n t cs ∧ dataA P n ts r := by
  obtain ⟨cs, r, rfl, h1, h2⟩ := h
  exact ⟨cs, r, by simp [argV, hu], h1, h2⟩

theorem dataV_int (hm : m = n + 1) {k : IntKind} {vs : List V} (hu : P.underlying t = some (.int k)) (h : dataV P m t vs) : ∃ z, vs = [.int k z] ∧ (Lit.int k z).wf = true := by
  subst hm
  unfold dataV at h
  rw [hu] at h
  exact h

theorem dataV_bool (hm : m = n + 1) {vs : List V} (hu : P.underlying t = some .bool) (h : dataV P m t vs) : ∃ b, vs = [.bool b] := by
  subst hm
  unfold dataV at h
  rw [hu] at h
  exact h

theorem dataV_str (hm : m = n + 1) {vs : List V} (hu : P.underlying t = some .string) (h : dataV P m t vs) : ∃ s, vs = [.str s] ∧ s.size ≤ maxLen := by
  subst hm
  unfold dataV at h
  rw [hu] at h
  exact h

theorem dataV_struct (hm : m = n + 1) {fs : Array Field} {vs : List V} (hu : P.underlying t = some (.struct fs)) (h : dataV P m t vs) :
    vs.length = P.cellsOf t ∧ ∀ (i : Nat) (f : Field), fs[i]? = some f → dataV P n f.type ((vs.drop f.offset).take (P.cellsOf f.type)) := by
  subst hm
  unfold dataV at h
  rw [hu] at h
  exact h

theorem wf64 {m : Int} (h : (Lit.int .i64 m).wf = true) : -9223372036854775808 ≤ m ∧ m ≤ 9223372036854775807 := by
  simpa [Lit.wf, IntKind.min, IntKind.max, IntKind.signed, IntKind.bits] using h

/-- A list whose every element is of a kind. -/
theorem list_of {α : Type} {g : α → V} : ∀ {xs : List V}, (∀ x ∈ xs, ∃ a, x = g a) → ∃ l : List α, xs = l.map g
  | [], _ => ⟨[], rfl⟩
  | x :: xs, h => by
    obtain ⟨a, ha⟩ := h x (List.mem_cons_self ..)
    obtain ⟨l, hl⟩ := list_of (g := g) (xs := xs) fun y hy => h y (List.mem_cons_of_mem _ hy)
    exact ⟨a :: l, by rw [ha, hl]; rfl⟩

/-- The same, with what is known of each. -/
theorem list_of' {α : Type} {g : α → V} {p : α → Prop} : ∀ {xs : List V}, (∀ x ∈ xs, ∃ a, x = g a ∧ p a) → ∃ l : List α, xs = l.map g ∧ ∀ a ∈ l, p a
  | [], _ => ⟨[], rfl, by simp⟩
  | x :: xs, h => by
    obtain ⟨a, ha, hp⟩ := h x (List.mem_cons_self ..)
    obtain ⟨l, hl, hl'⟩ := list_of' (g := g) (p := p) (xs := xs) fun y hy => h y (List.mem_cons_of_mem _ hy)
    refine ⟨a :: l, by rw [ha, hl]; rfl, fun b hb => ?_⟩
    rcases List.mem_cons.1 hb with rfl | hb
    · exact hp
    · exact hl' b hb

end
end
end Go.L
