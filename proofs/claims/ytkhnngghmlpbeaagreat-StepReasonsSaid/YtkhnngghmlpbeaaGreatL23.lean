/- Functions: what we play of a function's code is what a call of it comes to. -/
import Derived.Test.YtkhnngghmlpbeaaGreatL22
namespace Go.L
noncomputable section

section
variable {R : Type} {E : Env} {ρ : Ren} {lo : Nat → Option Nat} {a : Act} {w : World} {st : St}

theorem cell_run (hr : RelA E.n ρ lo st a w) {t : TypeId} {i : Nat} {K' : V → Option R} {r : R}
    (he : (match tyOf E.P 2 t with
      | .leaf l => l.dest (st.get (lk st.s i) 0) K'
      | .strt ls => rdLs ls (st.get (lk st.s i)) 0 fun cs => K' (.agg cs)
      | .blk n => (st.getN (lk st.s i) n).bind fun cs => K' (.agg cs)
      | _ => none) = some r) : ∃ v y, (do loadVar t (← asAddr (a.tmps.getD i undef)) : Sem Value).run E.P w = .ok y w ∧ RelV ρ v y ∧ K' v = some r := by
  obtain ⟨v, y, h1, h2, h3⟩ := load_run hr (hr.s i) he
  refine ⟨v, y, ?_, h2, h3⟩
  revert h1
  generalize a.tmps.getD i undef = x
  intro h1
  unfold Instr.loadAt Instr.sureAddr at h1
  unfold asAddr
  split at h1
  · exact h1
  · simp [stuck] at h1

theorem resVs_run (hr : RelA E.n ρ lo st a w) : ∀ (l : List ResultVar) {K : List V → Option R} {r : R}, resVs E st l K = some r →
    ∃ vs ys, (l.mapM (m := Sem) fun
      | .tmp t => pure (a.tmps.getD t undef)
      | .cell i t => do loadVar t (← asAddr (a.tmps.getD i undef))).run E.P w = .ok ys w ∧ vs.length = ys.length ∧
      (∀ (i : Nat) (v : V) (x : Value), vs[i]? = some v → ys[i]? = some x → RelV ρ v x) ∧ K vs = some r
  | [], K, r, h => ⟨[], [], by simp, rfl, by simp, h⟩
  | .tmp t :: l, K, r, h => by
    simp only [resVs] at h
    split at h
    · rename_i x hx
      obtain ⟨vs, ys, h1, h2, h3, h4⟩ := resVs_run hr l h
      refine ⟨x :: vs, a.tmps.getD t undef :: ys, ?_, by simp [h2], fun i v y hv hy => ?_, h4⟩
      · simp only [List.mapM_cons, pure_bind, Sem.run_bind, h1, Result.andThen_ok]
        rfl
      · cases i with
        | zero =>
          simp only [List.getElem?_cons_zero, Option.some.injEq] at hv hy
          subst hv; subst hy
          have := hr.s t
          rw [hx] at this
          exact this
        | succ i => simp at hv hy; exact h3 i v y hv hy
    · rename_i x hx
      obtain ⟨vs, ys, h1, h2, h3, h4⟩ := resVs_run hr l h
      refine ⟨x :: vs, a.tmps.getD t undef :: ys, ?_, by simp [h2], fun i v y hv hy => ?_, h4⟩
      · simp only [List.mapM_cons, pure_bind, Sem.run_bind, h1, Result.andThen_ok]
        rfl
      · cases i with
        | zero =>
          simp only [List.getElem?_cons_zero, Option.some.injEq] at hv hy
          subst hv; subst hy
          have := hr.s t
          rw [hx] at this
          exact this.1
        | succ i => simp at hv hy; exact h3 i v y hv hy
    · cases h
  | .cell k t :: l, K, r, h => by
    simp only [resVs] at h
    obtain ⟨x, y, g1, g2, g3⟩ := cell_run (K' := fun x => resVs E st l fun xs => K (x :: xs)) hr h
    obtain ⟨vs, ys, h1, h2, h3, h4⟩ := resVs_run hr l g3
    refine ⟨x :: vs, y :: ys, ?_, by simp [h2], fun i v z hv hz => ?_, h4⟩
    · simp only [List.mapM_cons]
      rw [Sem.run_bind, g1, Result.andThen_ok, Sem.run_bind, h1, Result.andThen_ok]
      rfl
    · cases i with
      | zero => simp at hv hz; subst hv; subst hz; exact g2
      | succ i => simp at hv hz; exact h3 i v z hv hz

theorem resV_run (hr : RelA E.n ρ lo st a w) {fn : Func} {v : V} {h : H} (he : resV E fn st = some (v, h)) :
    ∃ y, (results fn a.tmps).run E.P w = .ok y w ∧ RelV ρ v y ∧ h = st.h := by
  unfold resV at he
  obtain ⟨vs, ys, h1, h2, h3, h4⟩ := resVs_run hr _ he
  have hm : (fn.results.mapM (m := Sem) fun
      | .tmp t => pure (a.tmps.getD t undef)
      | .cell i t => do loadVar t (← asAddr (a.tmps.getD i undef))).run E.P w = .ok ys.toArray w := by
    rw [Array.mapM_eq_mapM_toList]
    rw [map_eq_pure_bind, Sem.run_bind, h1, Result.andThen_ok]
    rfl
  unfold results
  rw [Sem.run_bind]
  erw [hm]
  rw [Result.andThen_ok]
  split at h4
  · rename_i v'
    cases h4
    obtain ⟨y, rfl⟩ : ∃ y, ys = [y] := by
      match ys, h2 with
      | [y], _ => exact ⟨y, rfl⟩
    exact ⟨y, by simp, h3 0 v y rfl rfl, rfl⟩
  · rename_i hne
    cases h4
    refine ⟨.tuple ys.toArray, ?_, .tup _ _ (by simp [h2]) (by simpa using h3), rfl⟩
    have : ¬ ys.length = 1 := by
      intro h
      rw [h] at h2
      match vs, h2, hne with
      | [v], _, hne => exact hne v rfl
    rw [dif_neg (by simpa using this)]
    rfl

theorem lk_argSlots : ∀ (vs : List V) (k i : Nat), lk (argSlots k vs) i = if k ≤ i then (match vs[i - k]? with | some v => .v v | none => .bad) else .bad
  | [], k, i => by simp [argSlots, lk_nil]
  | v :: vs, k, i => by
    unfold argSlots
    rw [lk_cons, lk_argSlots vs (k + 1) i]
    by_cases h : k = i
    · subst h; simp
    · rw [if_neg h]
      by_cases h' : k ≤ i
      · have h2 : i - k = (i - (k + 1)) + 1 := by omega
        rw [if_pos h', if_pos (by omega), h2, List.getElem?_cons_succ]
      · rw [if_neg h', if_neg (by omega)]

end
end
end Go.L
