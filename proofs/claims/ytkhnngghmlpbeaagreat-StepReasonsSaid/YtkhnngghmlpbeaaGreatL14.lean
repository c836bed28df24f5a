/- Operations: comparisons, maps, calls. -/
import Derived.Test.YtkhnngghmlpbeaaGreatL13
namespace Go.L
noncomputable section

section ops
variable {R : Type} {E : Env} {o : Oper} {st : St} {K : St → Option R} {r : R} {ρ : Ren} {lo : Nat → Option Nat} {a : Act} {w : World}
  {next : Act → World → Prop} {Q : Exit → Act → World → Prop}

theorem eql_run {P : Program} {t : TypeId} {u v : Value} (h1 : plainV u = true) (hk : ∀ k n, u ≠ .int k n) (hs : ∀ s, u ≠ .string s) (hf : ∀ k n, u ≠ .float k n) (hc : ∀ k x y, u ≠ .complex k x y) {b : Bool} {w : World}
    (h : (Op.equalIn 10000 t u v).run P w = .ok b w) :
    (binOp .eql t u v).run P w = .ok (.bool b) w ∧ (binOp .neq t u v).run P w = .ok (.bool (!b)) w := by
  have e1 : (Op.equal t u v).run P w = .ok b w := h
  constructor
  · cases u <;> first | exact absurd rfl (hk _ _) | exact absurd rfl (hs _) | exact absurd rfl (hf _ _) | exact absurd rfl (hc _ _ _) | (simp [binOp, e1]; done)
  · cases u <;> first | exact absurd rfl (hk _ _) | exact absurd rfl (hs _) | exact absurd rfl (hf _ _) | exact absurd rfl (hc _ _ _) | (simp [binOp, e1]; done)

theorem eqBin_sound {op : BinOp} {t t' : TypeId} {x y : Operand} {u v : Value} (ho : o.op = .binOp op t x y t') (hx : a.eval x = u) (hy : a.eval y = v) {rb : Option Bool}
    (hg : (eqGuard op t x y u v).run E.P w = .ok () w) (heq : ∀ b, rb = some b → (binOp .eql t u v).run E.P w = .ok (.bool b) w ∧ (binOp .neq t u v).run E.P w = .ok (.bool (!b)) w)
    (he : (op = .eql ∧ eqBin false rb (finV E o st K) = some r) ∨ (op = .neq ∧ eqBin true rb (finV E o st K) = some r))
    (hr : RelA E.n ρ lo st a w) (hn : Owes E o st ρ lo w K r next) : o.wp E.P a w next Q := by
  rcases he with ⟨rfl, he⟩ | ⟨rfl, he⟩ <;> simp only [eqBin, Option.bind_eq_some_iff] at he <;> obtain ⟨b, hb, he⟩ := he
  · refine finV_sound he hr hn ?_ (.bool _)
    unfold execOp
    simp only [ho, hx, hy, Sem.run_bind, hg, Result.andThen_ok, (heq b hb).1, Sem.run_pure]
  · refine finV_sound he hr hn ?_ (.bool _)
    unfold execOp
    simp only [ho, hx, hy, Sem.run_bind, hg, Result.andThen_ok, (heq b hb).2, Sem.run_pure]

theorem nilBin_inv {op : BinOp} {rb : Option Bool} {K' : V → Option R} (h : nilBin op rb K' = some r) : (op = .eql ∧ eqBin false rb K' = some r) ∨ (op = .neq ∧ eqBin true rb K' = some r) := by
  cases op <;> simp only [nilBin] at h <;> first | exact .inl ⟨rfl, h⟩ | exact .inr ⟨rfl, h⟩ | cases h

/-- Arrays of whole numbers. -/
theorem intsEq_run {P : Program} {e : TypeId} {k : IntKind} (hu : P.underlying e = some (.int k)) (h1 : P.cellsOf e = 1) {cs ds : List V} {us vs : List Value} (hc : RelL ρ cs us) (hd : RelL ρ ds vs)
    (d : Nat) (w : World) : ∀ (n s : Nat) {b : Bool}, cs.length = s + n → intsEq (cs.drop s) (ds.drop s) = some b →
    (forIn (List.range' s n) (none, PUnit.unit) (fun i (_ : Option Bool × PUnit) => do
        let x ← part e us.toArray (i * 1)
        let y ← part e vs.toArray (i * 1)
        let q ← Op.equalIn (d + 1) e x y
        if (!q) = true then pure (ForInStep.done (some false, PUnit.unit)) else pure (ForInStep.yield (none, PUnit.unit))) : Sem (Option Bool × PUnit)).run P w =
      .ok ((if b = true then none else some false), PUnit.unit) w
  | 0, s, b, hlen, h => by
    have e0 : cs.drop s = [] := List.drop_eq_nil_of_le (by omega)
    rw [e0] at h
    cases hds : ds.drop s with
    | nil => rw [hds] at h; simp [intsEq] at h; subst h; simp
    | cons z zs => rw [hds] at h; simp [intsEq] at h
  | n + 1, s, b, hlen, h => by
    have hs : s < cs.length := by omega
    rw [List.drop_eq_getElem_cons hs] at h
    cases hds : ds.drop s with
    | nil => rw [hds] at h; cases hcs : cs[s] <;> rw [hcs] at h <;> simp [intsEq] at h
    | cons z zs =>
      have hs2 : s < ds.length := by
        cases Nat.lt_or_ge s ds.length with
        | inl h => exact h
        | inr h => rw [List.drop_eq_nil_of_le h] at hds; cases hds
      have hz : ds[s] = z ∧ ds.drop (s + 1) = zs := by
        rw [List.drop_eq_getElem_cons hs2] at hds
        cases hds; exact ⟨rfl, rfl⟩
      rw [hds] at h
      have hsu : s < us.length := by rw [← hc.1]; exact hs
      have hsv : s < vs.length := by rw [← hd.1]; exact hs2
      have r1 := (hc.2 s _ _ (List.getElem?_eq_getElem hs) (List.getElem?_eq_getElem hsu)).1
      have r2 := (hd.2 s _ _ (List.getElem?_eq_getElem hs2) (List.getElem?_eq_getElem hsv)).1
      rw [hz.1] at r2
      have p1 := part_leaf hu rfl (List.getElem?_eq_getElem hsu) w
      have p2 := part_leaf hu rfl (List.getElem?_eq_getElem hsv) w
      generalize hcv : cs[s] = cv at h r1
      cases cv <;> cases z <;> first | (simp [intsEq] at h; done) | skip
      rename_i k1 a1 k2 b1
      simp only [intsEq] at h
      split at h
      · rename_i hk
        subst hk
        simp only [Option.bind_eq_some_iff, Option.some.injEq] at h
        obtain ⟨y, hy, hb⟩ := h
        generalize us[s] = uu at r1 p1
        generalize vs[s] = vv at r2 p2
        cases r1; cases r2
        rw [← hz.2] at hy
        have ih := intsEq_run hu h1 hc hd d w n (s + 1) (by omega) hy
        rw [List.range'_succ, List.forIn_cons]
        try simp only [Nat.mul_one] at ih ⊢
        simp only [Sem.run_bind, p1, p2, Result.andThen_ok, run_equalIn_int w d e k1 k a1 b1 hu]
        by_cases hab : a1 = b1
        · subst hab
          have hb' : y = b := by rw [← hb]; simp
          subst hb'
          simp
          simpa using ih
        · have hb' : b = false := by rw [← hb]; simp [hab]
          subst hb'
          simp [hab]
      · cases h

end ops
end
end Go.L
