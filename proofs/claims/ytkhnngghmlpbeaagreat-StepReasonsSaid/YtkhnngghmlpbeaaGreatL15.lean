/- Operations: comparisons (the rest), maps, calls. -/
import Derived.Test.YtkhnngghmlpbeaaGreatL14
import Derived.Laws.Small
namespace Go.L
noncomputable section

section ops
variable {R : Type} {E : Env} {o : Oper} {st : St} {K : St → Option R} {r : R} {ρ : Ren} {lo : Nat → Option Nat} {a : Act} {w : World}
  {next : Act → World → Prop} {Q : Exit → Act → World → Prop}

theorem aggEq_run {P : Program} {op : BinOp} {t : TypeId} {x y : Operand} {cs ds : List V} {u v : Value} (hc : RelV ρ (.agg cs) u) (hd : RelV ρ (.agg ds) v) {b : Bool} (h : aggEq P t cs ds = some b) (w : World) :
    (eqGuard op t x y u v).run P w = .ok () w ∧ (binOp .eql t u v).run P w = .ok (.bool b) w ∧ (binOp .neq t u v).run P w = .ok (.bool (!b)) w := by
  unfold aggEq at h
  split at h
  · cases h
  · rename_i hg
    have hg' : P.eqGuardType P.depth t = false := by simpa using hg
    obtain ⟨us, rfl, hus⟩ := agg_inv hc
    obtain ⟨vs, rfl, hvs⟩ := agg_inv hd
    have main : (Op.equalIn 10000 t (.agg us.toArray) (.agg vs.toArray)).run P w = .ok b w := by
      split at h
      · exact eqV_run 100 10000 (by omega) hc hd h w
      · rename_i n e hu
        split at h
        · rename_i k hk
          split at h
          · rename_i h1
            split at h
            · rename_i hlen
              have key := intsEq_run hk h1 hus hvs 9998 w n 0 (by omega) (by simpa using h)
              show (Op.equalIn (9999 + 1) t _ _).run P w = _
              unfold Op.equalIn
              simp only [Sem.run_bind, run_underlying hu, Result.andThen_ok, run_sizeOf_ne (show P.cellsOf e ≠ 0 by omega), h1]
              rw [Std.Legacy.Range.forIn_eq_forIn_range']
              simp only [Std.Legacy.Range.size, Nat.sub_zero, Nat.add_sub_cancel, Nat.div_one]
              refine (congrArg (fun q => Result.andThen q _) key).trans ?_
              cases b <;> rfl
            · cases h
          · cases h
        · cases h
      · cases h
    refine ⟨run_eqGuard_agg w op t x y _ _ hg', ?_, ?_⟩
    · rw [run_eql_struct, main]; rfl
    · rw [run_neq_struct, main]; rfl


theorem isNil_run {P : Program} {t e : TypeId} (hu : P.underlying t = some (.pointer e)) {x : V} {u : Value} (hx : RelV ρ x u) {b : Bool} (h : isNil x = some b) (w : World) :
    plainV u = true ∧ (binOp .eql t u (.pointer none)).run P w = .ok (.bool b) w ∧ (binOp .neq t u (.pointer none)).run P w = .ok (.bool (!b)) w := by
  have key : ∀ u', u = u' → plainV u' = true → (∀ k n, u' ≠ .int k n) → (∀ s, u' ≠ .string s) → (∀ k n, u' ≠ .float k n) → (∀ k x y, u' ≠ .complex k x y) → (Op.equalIn (9999 + 1) t u' (.pointer none)).run P w = .ok b w →
      plainV u = true ∧ (binOp .eql t u (.pointer none)).run P w = .ok (.bool b) w ∧ (binOp .neq t u (.pointer none)).run P w = .ok (.bool (!b)) w := by
    intro u' e h1 h2 h3 h4 h5 h6
    subst e
    exact ⟨h1, eql_run h1 h2 h3 h4 h5 h6⟩
  unfold isNil at h
  split at h <;> cases h <;> cases hx <;>
    exact key _ rfl rfl (fun _ _ => by simp) (fun _ => by simp) (fun _ _ => by simp) (fun _ _ _ => by simp) (by unfold Op.equalIn; simp [run_underlying hu])

theorem isNilS_run {P : Program} {t e : TypeId} (hu : P.underlying t = some (.slice e)) {x : V} {u : Value} (hx : RelV ρ x u) {b : Bool} (h : isNilS x = some b) (w : World) :
    plainV u = true ∧ (binOp .eql t u (.slice none 0 0)).run P w = .ok (.bool b) w ∧ (binOp .neq t u (.slice none 0 0)).run P w = .ok (.bool (!b)) w := by
  have key : ∀ u', u = u' → plainV u' = true → (∀ k n, u' ≠ .int k n) → (∀ s, u' ≠ .string s) → (∀ k n, u' ≠ .float k n) → (∀ k x y, u' ≠ .complex k x y) → (Op.equalIn (9999 + 1) t u' (.slice none 0 0)).run P w = .ok b w →
      plainV u = true ∧ (binOp .eql t u (.slice none 0 0)).run P w = .ok (.bool b) w ∧ (binOp .neq t u (.slice none 0 0)).run P w = .ok (.bool (!b)) w := by
    intro u' e h1 h2 h3 h4 h5 h6
    subst e
    exact ⟨h1, eql_run h1 h2 h3 h4 h5 h6⟩
  unfold isNilS at h
  split at h <;> cases h <;> cases hx <;>
    exact key _ rfl rfl (fun _ _ => by simp) (fun _ => by simp) (fun _ _ => by simp) (fun _ _ _ => by simp) (by unfold Op.equalIn; simp [run_underlying hu])

theorem isNilM_run {P : Program} {t k e : TypeId} (hu : P.underlying t = some (.map k e)) {x : V} {u : Value} (hx : RelV ρ x u) {b : Bool} (h : isNilM x = some b) (w : World) :
    plainV u = true ∧ (binOp .eql t u (.map none)).run P w = .ok (.bool b) w ∧ (binOp .neq t u (.map none)).run P w = .ok (.bool (!b)) w := by
  have key : ∀ u', u = u' → plainV u' = true → (∀ k n, u' ≠ .int k n) → (∀ s, u' ≠ .string s) → (∀ k n, u' ≠ .float k n) → (∀ k x y, u' ≠ .complex k x y) → (Op.equalIn (9999 + 1) t u' (.map none)).run P w = .ok b w →
      plainV u = true ∧ (binOp .eql t u (.map none)).run P w = .ok (.bool b) w ∧ (binOp .neq t u (.map none)).run P w = .ok (.bool (!b)) w := by
    intro u' e h1 h2 h3 h4 h5 h6
    subst e
    exact ⟨h1, eql_run h1 h2 h3 h4 h5 h6⟩
  unfold isNilM at h
  split at h <;> cases h <;> cases hx <;>
    exact key _ rfl rfl (fun _ _ => by simp) (fun _ => by simp) (fun _ _ => by simp) (fun _ _ _ => by simp) (by unfold Op.equalIn; simp [run_underlying hu])

theorem isNilF_run {P : Program} {t : TypeId} {ps rs : Array TypeId} {vd : Bool} (hu : P.underlying t = some (.func ps rs vd)) {x : V} {u : Value} (hx : RelV ρ x u) {b : Bool} (h : isNilF x = some b) (w : World) :
    plainV u = true ∧ (binOp .eql t u .nilFunc).run P w = .ok (.bool b) w ∧ (binOp .neq t u .nilFunc).run P w = .ok (.bool (!b)) w := by
  have key : ∀ u', u = u' → plainV u' = true → (∀ k n, u' ≠ .int k n) → (∀ s, u' ≠ .string s) → (∀ k n, u' ≠ .float k n) → (∀ k x y, u' ≠ .complex k x y) → (Op.equalIn (9999 + 1) t u' .nilFunc).run P w = .ok b w →
      plainV u = true ∧ (binOp .eql t u .nilFunc).run P w = .ok (.bool b) w ∧ (binOp .neq t u .nilFunc).run P w = .ok (.bool (!b)) w := by
    intro u' e h1 h2 h3 h4 h5 h6
    subst e
    exact ⟨h1, eql_run h1 h2 h3 h4 h5 h6⟩
  unfold isNilF at h
  split at h <;> cases h <;> cases hx <;>
    exact key _ rfl rfl (fun _ _ => by simp) (fun _ => by simp) (fun _ _ => by simp) (fun _ _ _ => by simp) (by unfold Op.equalIn; simp [run_underlying hu])

theorem binOp_sound {op : BinOp} {t t' : TypeId} {x y : Operand} (ho : o.op = .binOp op t x y t') (he : evOp E o st K = some r) (hr : RelA E.n ρ lo st a w) (hn : Owes E o st ρ lo w K r next) :
    o.wp E.P a w next Q := by
  unfold evOp at he
  simp only [ho] at he
  split at he
  · rename_i xv yv hxs hys
    have hx := opnd_v hr hxs
    have hy := opnd_v hr hys
    have nilcase : ∀ {u v : Value} {rb : Option Bool}, a.eval x = u → a.eval y = v → nilBin op rb (finV E o st K) = some r →
        (∀ b, rb = some b → plainV u = true ∧ (binOp .eql t u v).run E.P w = .ok (.bool b) w ∧ (binOp .neq t u v).run E.P w = .ok (.bool (!b)) w) → o.wp E.P a w next Q := by
      intro u v rb hu hv hnb hall
      have hinv := nilBin_inv hnb
      have hex : ∃ b, rb = some b := by
        rcases hinv with ⟨_, h⟩ | ⟨_, h⟩ <;> (simp only [eqBin, Option.bind_eq_some_iff] at h; obtain ⟨b, hb, _⟩ := h; exact ⟨b, hb⟩)
      obtain ⟨b0, hb0⟩ := hex
      exact eqBin_sound ho hu hv (eqGuard_run (hall b0 hb0).1 w) (fun b hb => (hall b hb).2) hinv hr hn
    unfold binS at he
    split at he
    · generalize hyv : a.eval y = yw at hy
      cases hy
      split at he
      · rename_i e hu
        exact nilcase rfl hyv he (fun b hb => isNil_run hu hx hb w)
      · cases he
    · generalize hyv : a.eval y = yw at hy
      cases hy
      split at he
      · rename_i e hu
        exact nilcase rfl hyv he (fun b hb => isNilS_run hu hx hb w)
      · cases he
    · generalize hyv : a.eval y = yw at hy
      cases hy
      split at he
      · rename_i e hu
        exact nilcase rfl hyv he (fun b hb => isNilM_run hu hx hb w)
      · cases he
    · generalize hyv : a.eval y = yw at hy
      cases hy
      split at he
      · rename_i e hu
        exact nilcase rfl hyv he (fun b hb => isNilF_run hu hx hb w)
      · cases he
    · unfold binX at he
      split at he
      · generalize hxv : a.eval x = xw at hx
        generalize hyv : a.eval y = yw at hy
        cases hx; cases hy
        exact shift_sound ho (.inl rfl) hxv hyv he hr hn
      · generalize hxv : a.eval x = xw at hx
        generalize hyv : a.eval y = yw at hy
        cases hx; cases hy
        exact shift_sound ho (.inr rfl) hxv hyv he hr hn
      · split at he
        · rename_i hk
          subst hk
          generalize hxv : a.eval x = xw at hx
          generalize hyv : a.eval y = yw at hy
          cases hx; cases hy
          exact intBin_sound ho hxv hyv he hr hn
        · cases he
      · generalize hxv : a.eval x = xw at hx
        generalize hyv : a.eval y = yw at hy
        cases hx; cases hy
        exact strBin_sound ho hxv hyv he hr hn
      · split at he
        · rename_i hk
          subst hk
          generalize hxv : a.eval x = xw at hx
          generalize hyv : a.eval y = yw at hy
          cases hx; cases hy
          exact floatBin_sound ho hxv hyv he hr hn
        · cases he
      · split at he
        · rename_i hu
          generalize hxv : a.eval x = xw at hx
          generalize hyv : a.eval y = yw at hy
          cases hx; cases hy
          refine finV_sound he hr hn (binOp_run ho hxv hyv rfl ?_) (.bool _)
          simp [binOp, run_equal_bool w t _ _ hu]
        · cases he
      · split at he
        · rename_i hu
          generalize hxv : a.eval x = xw at hx
          generalize hyv : a.eval y = yw at hy
          cases hx; cases hy
          refine finV_sound he hr hn (binOp_run ho hxv hyv rfl ?_) (.bool _)
          simp [binOp, run_equal_bool w t _ _ hu]
        · cases he
      · split at he
        · rename_i hk
          subst hk
          generalize hxv : a.eval x = xw at hx
          generalize hyv : a.eval y = yw at hy
          cases hx; cases hy
          refine finV_sound he hr hn (binOp_run ho hxv hyv rfl ?_) (.bool _)
          simp [binOp, Op.complexOp, Op.Complex.cmp, Op.floatCmp, Go.asBool, Op.floatEq]
        · cases he
      · split at he
        · rename_i hk
          subst hk
          generalize hxv : a.eval x = xw at hx
          generalize hyv : a.eval y = yw at hy
          cases hx; cases hy
          refine finV_sound he hr hn (binOp_run ho hxv hyv rfl ?_) (.bool _)
          simp [binOp, Op.complexOp, Op.Complex.cmp, Op.floatCmp, Go.asBool, Op.floatEq]
        · cases he
      · simp only [eqBin, Option.bind_eq_some_iff] at he
        obtain ⟨b, hb, he⟩ := he
        obtain ⟨h1, h2, h3⟩ := aggEq_run (op := .eql) (x := x) (y := y) hx hy hb w
        refine finV_sound he hr hn ?_ (.bool _)
        unfold execOp
        simp only [ho, Sem.run_bind, h1, Result.andThen_ok, h2, Sem.run_pure]
      · simp only [eqBin, Option.bind_eq_some_iff] at he
        obtain ⟨b, hb, he⟩ := he
        obtain ⟨h1, h2, h3⟩ := aggEq_run (op := .neq) (x := x) (y := y) hx hy hb w
        refine finV_sound he hr hn ?_ (.bool _)
        unfold execOp
        simp only [ho, Sem.run_bind, h1, Result.andThen_ok, h3, Sem.run_pure]
      · cases he
  · cases he

end ops
end
end Go.L
