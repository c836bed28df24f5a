/- Operations: what we play is what the machine does. -/
import Derived.Test.YtkhnngghmlpbeaaGreatL4
import Derived.Laws.StructEq
namespace Go.L
noncomputable section

/-- What an operation leaves as it was. -/
structure Kept (E : Env) (o : Oper) (st st' : St) : Prop where
  s : ∀ i, o.dst ≠ some i → lk st'.s i = lk st.s i
  l : quietL E o = true → st'.l = st.l

/-- What is owed behind an operation. -/
def Owes {R : Type} (E : Env) (o : Oper) (st : St) (ρ : Ren) (lo : Nat → Option Nat) (w : World) (K : St → Option R) (r : R) (next : Act → World → Prop) : Prop :=
  ∀ (st' : St) (ρ' : Ren) (lo' : Nat → Option Nat) (a' : Act) (w' : World), K st' = some r → Kept E o st st' → RelA E.n ρ' lo' st' a' w' → Step ρ lo w ρ' lo' w' → next a' w'

theorem fin_sound {R : Type} {E : Env} {o : Oper} {st : St} {K : St → Option R} {x : S} {l : List (Nat × List V)} {h : H} {r : R} (he : fin E o st K x l h = some r)
    {ρ ρ' : Ren} {lo lo' : Nat → Option Nat} {a : Act} {w w' : World} {v : Value} (hr : RelA E.n ρ' lo' ⟨st.s, l, h⟩ a w') (hx : RelS ρ' lo' x v)
    (hs : Step ρ lo w ρ' lo' w') {next : Act → World → Prop} (hn : Owes E o st ρ lo w K r next) (hl : quietL E o = true → l = st.l := by intro _; rfl) : next (a.put o.dst v) w' := by
  unfold fin at he
  cases hd : o.dst with
  | none => rw [hd] at he; exact hn _ ρ' lo' a w' he ⟨fun _ _ => rfl, hl⟩ hr hs
  | some d =>
    rw [hd] at he
    simp only at he
    cases hb : Nat.blt d E.n with
    | false => rw [hb] at he; cases he
    | true =>
      rw [hb] at he
      have hlt : d < E.n := by simpa [Nat.blt_eq] using hb
      simp only at he
      have kept : ∀ y, Kept E o st ⟨(d, y) :: st.s, l, h⟩ := fun y => ⟨fun i hi => by
        rw [lk_cons, if_neg]
        intro e
        exact hi (by rw [hd, e]), hl⟩
      cases hlp : lpOk E d x with
      | false =>
        rw [hlp] at he
        exact hn _ ρ' lo' _ w' he (kept _) (hr.put hlt (x := .bad) trivial) hs
      | true =>
        rw [hlp] at he
        exact hn _ ρ' lo' _ w' he (kept _) (hr.put hlt hx) hs

theorem upon_of {P : Program} {o : Oper} {a : Act} {next : Act → World → Prop} {Q : Exit → Act → World → Prop} {w w' : World} {v : Value}
    (hrun : (execOp a.eval o).run P w = .ok (.value v) w') (h : next (a.put o.dst v) w') : o.wp P a w next Q := by
  unfold Oper.wp
  rw [hrun]
  exact h

theorem upon_skip {P : Program} {o : Oper} {a : Act} {next : Act → World → Prop} {Q : Exit → Act → World → Prop} {w w' : World}
    (hrun : (execOp a.eval o).run P w = .ok .skip w') (h : next (a.put o.dst undef) w') : o.wp P a w next Q := by
  unfold Oper.wp
  rw [hrun]
  exact h

section ops
variable {R : Type} {E : Env} {o : Oper} {st : St} {K : St → Option R} {r : R} {ρ : Ren} {lo : Nat → Option Nat} {a : Act} {w : World}
  {next : Act → World → Prop} {Q : Exit → Act → World → Prop}

/-- An operation that leaves memory alone. -/
theorem still_sound {x : S} (he : fin E o st K x st.l st.h = some r) (hr : RelA E.n ρ lo st a w) (hn : Owes E o st ρ lo w K r next) {v : Value}
    (hrun : (execOp a.eval o).run E.P w = .ok (.value v) w) (hx : RelS ρ lo x v) : o.wp E.P a w next Q :=
  upon_of hrun (fin_sound he hr hx (Step.refl _ _ _) hn)

theorem move_sound {x : Operand} (ho : o.op = .move x ∨ o.op = .assign x) (he : fin E o st K (st.opnd x) st.l st.h = some r) (hr : RelA E.n ρ lo st a w) (hn : Owes E o st ρ lo w K r next) :
    o.wp E.P a w next Q :=
  still_sound he hr hn (v := a.eval x) (by rcases ho with ho | ho <;> (unfold execOp; rw [ho]; rfl)) (opnd_rel hr x)

theorem opnd_bool (hr : RelA E.n ρ lo st a w) {c : Operand} {t : Bool} (hc : st.opnd c = .v (.bool t)) : a.eval c = .bool t := by
  have := opnd_rel hr c
  rw [hc] at this
  revert this
  generalize a.eval c = v
  intro this
  cases this
  rfl

theorem opnd_int (hr : RelA E.n ρ lo st a w) {c : Operand} {k : IntKind} {t : Int} (hc : st.opnd c = .v (.int k t)) : a.eval c = .int k t := by
  have := opnd_rel hr c
  rw [hc] at this
  revert this
  generalize a.eval c = v
  intro this
  cases this
  rfl

theorem pick_sound {c x y : Operand} (ho : o.op = .pick c x y) (he : evOp E o st K = some r) (hr : RelA E.n ρ lo st a w) (hn : Owes E o st ρ lo w K r next) :
    o.wp E.P a w next Q := by
  unfold evOp at he
  simp only [ho] at he
  split at he
  · rename_i t hc
    have hcv := opnd_bool hr hc
    have hrun : (execOp a.eval o).run E.P w = .ok (.value (if t = true then a.eval x else a.eval y)) w := by
      unfold execOp
      simp [ho, hcv, Go.asBool]
    split at he
    · rename_i p q hp hq
      have hpv := opnd_bool hr hp
      have hqv := opnd_bool hr hq
      refine still_sound he hr hn hrun ?_
      rw [hpv, hqv]
      show RelV _ _ _
      cases t <;> exact RelV.bool _
    · refine still_sound he hr hn hrun ?_
      cases t
      · exact opnd_rel hr y
      · exact opnd_rel hr x
  · cases he

/-- What a typed load finds. -/
theorem load_run {t : TypeId} {p : S} {x : Value} (hr : RelA E.n ρ lo st a w) (hp : RelS ρ lo p x) {K' : V → Option R}
    (he : (match tyOf E.P 2 t with
      | .leaf l => l.dest (st.get p 0) K'
      | .strt ls => rdLs ls (st.get p) 0 fun cs => K' (.agg cs)
      | .blk n => (st.getN p n).bind fun cs => K' (.agg cs)
      | _ => none) = some r) : ∃ v y, (Instr.loadAt t x).run E.P w = .ok y w ∧ RelV ρ v y ∧ K' v = some r := by
  obtain ⟨c1, c2, c3⟩ := tyOf_cases E.P 2 t
  have many : ∀ vs : List V, (∃ u, E.P.underlying t = some u ∧ aggTy u = true) → vs.length = E.P.cellsOf t → E.P.cellsOf t ≠ 0 →
      (∀ (j : Nat) (v : V), vs[j]? = some v → st.get p j = some v) → ∃ y, (Instr.loadAt t x).run E.P w = .ok y w ∧ RelV ρ (.agg vs) y := by
    intro vs hu hl hpos hg
    obtain ⟨u, hu, hag⟩ := hu
    obtain ⟨ad, hx, ys, hys, hcells⟩ : ∃ ad, x = .pointer (some ad) ∧ RdsAt ρ w ad vs :=
      rds_of (fun hv => hpos (by rw [← hl, hv]; rfl)) fun j v hj => get_rel hr hp (hg j v hj)
    subst hx
    refine ⟨.agg ys.toArray, ?_, hys.agg⟩
    have hl' : E.P.cellsOf t = ys.length := by rw [← hl]; exact hys.1
    simp only [Instr.loadAt, Instr.sureAddr, loadVar, pure_bind, Sem.run_bind, run_isAgg hu, hag, Result.andThen_ok, if_true, run_sizeOf' hu]
    rw [hl', run_loadCells_list w ad ys hcells]
    rfl
  split at he
  · rename_i l hl
    obtain ⟨u, hu, hag, _⟩ := c1 l hl
    obtain ⟨v, hv, hk⟩ := dest_inv he
    obtain ⟨ad, y, hx, hc, hvy, _⟩ := get_rel hr hp hv
    subst hx
    refine ⟨v, y, ?_, hvy, hk⟩
    have h0 : ad.add 0 = ad := by simp [Addr.add]
    rw [h0] at hc
    simp [Instr.loadAt, Instr.sureAddr, loadVar, run_isAgg hu, hag, hc]
  · rename_i ls hl
    obtain ⟨u, hu, hag, hsz, hpos⟩ := c2 ls hl
    obtain ⟨vs, h1, h2, h3⟩ := rdLs_inv he
    obtain ⟨y, hy, hv⟩ := many vs ⟨u, hu, hag⟩ (by omega) hpos (fun j v hj => by simpa using h2 j v hj)
    exact ⟨_, y, hy, hv, h3⟩
  · rename_i n hl
    obtain ⟨u, hu, hag, hsz, hpos⟩ := c3 n hl
    simp only [Option.bind_eq_some_iff] at he
    obtain ⟨vs, h1, h3⟩ := he
    obtain ⟨h4, h5⟩ := getN_get h1
    obtain ⟨y, hy, hv⟩ := many vs ⟨u, hu, hag⟩ (by omega) hpos h5
    exact ⟨_, y, hy, hv, h3⟩
  · cases he

end ops
end
end Go.L
