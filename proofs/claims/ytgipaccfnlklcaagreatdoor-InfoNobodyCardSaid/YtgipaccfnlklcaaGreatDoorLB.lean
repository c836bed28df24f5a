import Derived.Test.YtgipaccfnlklcaaGreatDoorLA
import Derived.Laws.Small
import Derived.Laws.BytesString
import Derived.LoopN
namespace Go.L
noncomputable section

section ops
variable {R : Type} {E : Env} {o : Oper} {st : St} {K : St → Option R} {r : R} {ρ : Ren} {lo : Nat → Option Nat} {a : Act} {w : World}
  {next : Act → World → Prop} {Q : Exit → Act → World → Prop}

theorem aggEq_run {P : Program} {op : BinOp} {t : TypeId} {x y : Operand} {cs ds : List V} {u v : Value} (hc : RelV ρ (.agg cs) u) (hd : RelV ρ (.agg ds) v) {b : Bool} (h : aggEq P t cs ds = some b) (w : World) :
    (eqGuard op t x y u v).run P w = .ok () w ∧ (binOp .eql t u v).run P w = .ok (.bool b) w ∧ (binOp .neq t u v).run P w = .ok (.bool (!b)) w := by
  unfold aggEq at h
  split at h
  · cases h
  · rename_i hg
    have hg' : P.eqGuardType P.depth t = false := by simpa using hg
    obtain ⟨us, rfl, hus⟩ := agg_inv hc
    obtain ⟨vs, rfl, hvs⟩ := agg_inv hd
    have main : (Op.equalIn 10000 t (.agg us.toArray) (.agg vs.toArray)).run P w = .ok b w := by
      split at h
      · exact eqV_run 100 10000 (by omega) hc hd h w
      · rename_i n e hu
        split at h
        · rename_i k hk
          split at h
          · rename_i h1
            split at h
            · rename_i hlen
              have key := intsEq_run hk h1 hus hvs 9998 w n 0 (by omega) (by simpa using h)
              show (Op.equalIn (9999 + 1) t _ _).run P w = _
              unfold Op.equalIn
              simp only [Sem.run_bind, run_underlying hu, Result.andThen_ok, run_sizeOf_ne (show P.cellsOf e ≠ 0 by omega), h1]
              rw [Std.Legacy.Range.forIn_eq_forIn_range']
              simp only [Std.Legacy.Range.size, Nat.sub_zero, Nat.add_sub_cancel, Nat.div_one]
              refine (congrArg (fun q => Result.andThen q _) key).trans ?_
              cases b <;> rfl
            · cases h
          · cases h
        · cases h
      · cases h
    refine ⟨run_eqGuard_agg w op t x y _ _ hg', ?_, ?_⟩
    · rw [run_eql_struct, main]; rfl
    · rw [run_neq_struct, main]; rfl

theorem isNil_run {P : Program} {t e : TypeId} (hu : P.underlying t = some (.pointer e)) {x : V} {u : Value} (hx : RelV ρ x u) {b : Bool} (h : isNil x = some b) (w : World) :
    plainV u = true ∧ (binOp .eql t u (.pointer none)).run P w = .ok (.bool b) w ∧ (binOp .neq t u (.pointer none)).run P w = .ok (.bool (!b)) w := by
  have key : ∀ u', u = u' → plainV u' = true → (∀ k n, u' ≠ .int k n) → (∀ s, u' ≠ .string s) → (∀ k n, u' ≠ .float k n) → (∀ k x y, u' ≠ .complex k x y) → (Op.equalIn (9999 + 1) t u' (.pointer none)).run P w = .ok b w →
      plainV u = true ∧ (binOp .eql t u (.pointer none)).run P w = .ok (.bool b) w ∧ (binOp .neq t u (.pointer none)).run P w = .ok (.bool (!b)) w := by
    intro u' e h1 h2 h3 h4 h5 h6
    subst e
    exact ⟨h1, eql_run h1 h2 h3 h4 h5 h6⟩
  unfold isNil at h
  split at h <;> cases h <;> cases hx <;>
    exact key _ rfl rfl (fun _ _ => by simp) (fun _ => by simp) (fun _ _ => by simp) (fun _ _ _ => by simp) (by unfold Op.equalIn; simp [run_underlying hu])

theorem isNilS_run {P : Program} {t e : TypeId} (hu : P.underlying t = some (.slice e)) {x : V} {u : Value} (hx : RelV ρ x u) {b : Bool} (h : isNilS x = some b) (w : World) :
    plainV u = true ∧ (binOp .eql t u (.slice none 0 0)).run P w = .ok (.bool b) w ∧ (binOp .neq t u (.slice none 0 0)).run P w = .ok (.bool (!b)) w := by
  have key : ∀ u', u = u' → plainV u' = true → (∀ k n, u' ≠ .int k n) → (∀ s, u' ≠ .string s) → (∀ k n, u' ≠ .float k n) → (∀ k x y, u' ≠ .complex k x y) → (Op.equalIn (9999 + 1) t u' (.slice none 0 0)).run P w = .ok b w →
      plainV u = true ∧ (binOp .eql t u (.slice none 0 0)).run P w = .ok (.bool b) w ∧ (binOp .neq t u (.slice none 0 0)).run P w = .ok (.bool (!b)) w := by
    intro u' e h1 h2 h3 h4 h5 h6
    subst e
    exact ⟨h1, eql_run h1 h2 h3 h4 h5 h6⟩
  unfold isNilS at h
  split at h <;> cases h <;> cases hx <;>
    exact key _ rfl rfl (fun _ _ => by simp) (fun _ => by simp) (fun _ _ => by simp) (fun _ _ _ => by simp) (by unfold Op.equalIn; simp [run_underlying hu])

theorem isNilM_run {P : Program} {t k e : TypeId} (hu : P.underlying t = some (.map k e)) {x : V} {u : Value} (hx : RelV ρ x u) {b : Bool} (h : isNilM x = some b) (w : World) :
    plainV u = true ∧ (binOp .eql t u (.map none)).run P w = .ok (.bool b) w ∧ (binOp .neq t u (.map none)).run P w = .ok (.bool (!b)) w := by
  have key : ∀ u', u = u' → plainV u' = true → (∀ k n, u' ≠ .int k n) → (∀ s, u' ≠ .string s) → (∀ k n, u' ≠ .float k n) → (∀ k x y, u' ≠ .complex k x y) → (Op.equalIn (9999 + 1) t u' (.map none)).run P w = .ok b w →
      plainV u = true ∧ (binOp .eql t u (.map none)).run P w = .ok (.bool b) w ∧ (binOp .neq t u (.map none)).run P w = .ok (.bool (!b)) w := by
    intro u' e h1 h2 h3 h4 h5 h6
    subst e
    exact ⟨h1, eql_run h1 h2 h3 h4 h5 h6⟩
  unfold isNilM at h
  split at h <;> cases h <;> cases hx <;>
    exact key _ rfl rfl (fun _ _ => by simp) (fun _ => by simp) (fun _ _ => by simp) (fun _ _ _ => by simp) (by unfold Op.equalIn; simp [run_underlying hu])

theorem isNilF_run {P : Program} {t : TypeId} {ps rs : Array TypeId} {vd : Bool} (hu : P.underlying t = some (.func ps rs vd)) {x : V} {u : Value} (hx : RelV ρ x u) {b : Bool} (h : isNilF x = some b) (w : World) :
    plainV u = true ∧ (binOp .eql t u .nilFunc).run P w = .ok (.bool b) w ∧ (binOp .neq t u .nilFunc).run P w = .ok (.bool (!b)) w := by
  have key : ∀ u', u = u' → plainV u' = true → (∀ k n, u' ≠ .int k n) → (∀ s, u' ≠ .string s) → (∀ k n, u' ≠ .float k n) → (∀ k x y, u' ≠ .complex k x y) → (Op.equalIn (9999 + 1) t u' .nilFunc).run P w = .ok b w →
      plainV u = true ∧ (binOp .eql t u .nilFunc).run P w = .ok (.bool b) w ∧ (binOp .neq t u .nilFunc).run P w = .ok (.bool (!b)) w := by
    intro u' e h1 h2 h3 h4 h5 h6
    subst e
    exact ⟨h1, eql_run h1 h2 h3 h4 h5 h6⟩
  unfold isNilF at h
  split at h <;> cases h <;> cases hx <;>
    exact key _ rfl rfl (fun _ _ => by simp) (fun _ => by simp) (fun _ _ => by simp) (fun _ _ _ => by simp) (by unfold Op.equalIn; simp [run_underlying hu])

theorem run_frozen {P : Program} (a : Addr) (w : World) : (frozen a).run P w = .ok (w.frozen? a) w := rfl
theorem run_shape {P : Program} (b : Nat) (w : World) : (shape b).run P w = .ok (w.shape? b) w := rfl

theorem sameAddr_apart {P : Program} {a b : Addr} (hne : a.block ≠ b.block) (ha : unfr (w.heap[a.block]?)) (hb : unfr (w.heap[b.block]?)) {c c' : Array Value} {e e' : TypeId} {fr fr' : Nat × Nat}
    (ka : w.heap[a.block]? = some (.cells c e fr)) (kb : w.heap[b.block]? = some (.cells c' e' fr')) : (sameAddr a b).run P w = .ok false w := by
  have f1 : ∀ o : Nat, w.frozen? { block := a.block, off := o } = false := fun o => unfr_frozen ha
  have f2 : ∀ o : Nat, w.frozen? { block := b.block, off := o } = false := fun o => unfr_frozen hb
  have f3 : w.frozen? a = false := unfr_frozen ha
  have f4 : w.frozen? b = false := unfr_frozen hb
  have s1 : w.shape? a.block = some (e, c.size) := by simp [World.shape?, ka]
  have s2 : w.shape? b.block = some (e', c'.size) := by simp [World.shape?, kb]
  simp [sameAddr, hne, f1, f2, f3, f4, noView, viewAt, s1, s2, mayBeOne, stringish]

theorem cells_inv {h : H} (hh : RelH ρ h w) {i v o u : Nat} {cs : List V} {y : Value} (hx : RelV ρ (.ptr i v o) y) (hi : h[i]? = some (.cells u cs)) (hv : v = u) (hu : u < strV) :
    ∃ g c e fr, y = .pointer (some ⟨g.blk, g.base + o, none⟩) ∧ ρ.wr i = some g ∧ w.heap[g.blk]? = some (.cells c e fr) ∧ unfr (w.heap[g.blk]?) := by
  obtain ⟨g, hg⟩ := hh.live i _ hi rfl
  obtain ⟨o1, ob, h1, h2, h3, h4⟩ := hh.obj i g hg
  rw [hi] at h1; cases h1
  subst hv
  cases hx with
  | ptr _ _ _ a k1 k2 k3 =>
    have e := k3 g h4.symm hg
    subst e
    cases ob with
    | cells c e fr => exact ⟨g, c, e, fr, rfl, hg, h2, by rw [h2]; exact h3.unfr hu⟩
    | _ => exact h3.elim

theorem ptrEq_run {P : Program} {t e : TypeId} (hu : P.underlying t = some (.pointer e)) (hc : P.cellsOf e ≠ 0) {h : H} (hh : RelH ρ h w) {x y : V} {u v : Value} (hx : RelV ρ x u) (hy : RelV ρ y v) {b : Bool} (h' : ptrEq h x y = some b) :
    plainV u = true ∧ (binOp .eql t u v).run P w = .ok (.bool b) w ∧ (binOp .neq t u v).run P w = .ok (.bool (!b)) w := by
  have key : ∀ u' v', u = u' → v = v' → plainV u' = true → (∀ k n, u' ≠ .int k n) → (∀ s, u' ≠ .string s) → (∀ k n, u' ≠ .float k n) → (∀ k x y, u' ≠ .complex k x y) → (Op.equalIn (9999 + 1) t u' v').run P w = .ok b w →
      plainV u = true ∧ (binOp .eql t u v).run P w = .ok (.bool b) w ∧ (binOp .neq t u v).run P w = .ok (.bool (!b)) w := by
    intro u' v' e e' h1 h2 h3 h4 h5 h6
    subst e; subst e'
    exact ⟨h1, eql_run h1 h2 h3 h4 h5 h6⟩
  unfold ptrEq at h'
  split at h'
  · cases h'; cases hx; cases hy
    exact key _ _ rfl rfl rfl (fun _ _ => by simp) (fun _ => by simp) (fun _ _ => by simp) (fun _ _ _ => by simp) (by unfold Op.equalIn; simp [run_underlying hu])
  · cases h'; cases hx; cases hy
    exact key _ _ rfl rfl rfl (fun _ _ => by simp) (fun _ => by simp) (fun _ _ => by simp) (fun _ _ _ => by simp) (by unfold Op.equalIn; simp [run_underlying hu])
  · cases h'; cases hx; cases hy
    exact key _ _ rfl rfl rfl (fun _ _ => by simp) (fun _ => by simp) (fun _ _ => by simp) (fun _ _ _ => by simp) (by unfold Op.equalIn; simp [run_underlying hu])
  · cases h'; cases hx; cases hy
    exact key _ _ rfl rfl rfl (fun _ _ => by simp) (fun _ => by simp) (fun _ _ => by simp) (fun _ _ _ => by simp) (by unfold Op.equalIn; simp [run_underlying hu])
  · cases h'; cases hx; cases hy
    exact key _ _ rfl rfl rfl (fun _ _ => by simp) (fun _ => by simp) (fun _ _ => by simp) (fun _ _ _ => by simp) (by unfold Op.equalIn; simp [run_underlying hu])
  · rename_i i v0 o j v1 o'
    split at h'
    case h_2 => cases h'
    rename_i u0 cs u1 cs' hi hj
    split at h'
    case isFalse => cases h'
    rename_i hv0
    split at h'
    case isFalse => cases h'
    rename_i hv1
    have h' := Option.some.inj h'
    obtain ⟨g, c, e1, fr, hu', hg, hw, hf⟩ := cells_inv hh hx hi hv0.1 hv0.2
    obtain ⟨g2, c2, e2, fr2, hv', hg2, hw2, hf2⟩ := cells_inv hh hy hj hv1.1 hv1.2
    refine key _ _ hu' hv' rfl (fun _ _ => by simp) (fun _ => by simp) (fun _ _ => by simp) (fun _ _ _ => by simp) ?_
    have e0 : (Op.equalIn (9999 + 1) t (.pointer (some ⟨g.blk, g.base + o, none⟩)) (.pointer (some ⟨g2.blk, g2.base + o', none⟩))).run P w = (sameAddr ⟨g.blk, g.base + o, none⟩ ⟨g2.blk, g2.base + o', none⟩).run P w := by
      unfold Op.equalIn
      simp [run_underlying hu, run_sizeOf_ne hc, hc]
    rw [e0]
    by_cases hij : i = j
    · subst hij
      rw [hg] at hg2; cases hg2
      have hb : b = Nat.beq o o' := by rw [← h']; simp
      subst hb
      by_cases hoo : o = o'
      · subst hoo; simp [sameAddr]
      · have : Nat.beq o o' = false := by
          cases hb : Nat.beq o o' with
          | false => rfl
          | true => exact absurd (Nat.eq_of_beq_eq_true hb) hoo
        simp [sameAddr, this, hoo]
    · have hb : b = false := by
        rw [← h']
        have : Nat.beq i j = false := by
          cases hb : Nat.beq i j with
          | false => rfl
          | true => exact absurd (Nat.eq_of_beq_eq_true hb) hij
        rw [this]; rfl
      subst hb
      exact sameAddr_apart (fun e => hij (hh.inj i j g g2 hg hg2 e)) hf hf2 hw hw2
  · cases h'

theorem adr_rel {lo : Nat → Option Nat} {x : S} {v : Value} (h : RelS ρ lo x v) {p : V} (hp : adrOf x = some p) : RelV ρ p v := by
  unfold adrOf at hp
  split at hp
  · cases hp; exact h
  · cases hp; exact h.1
  · cases hp

theorem binOp_sound {op : BinOp} {t t' : TypeId} {x y : Operand} (ho : o.op = .binOp op t x y t') (he : evOp E o st K = some r) (hr : RelA E.n ρ lo st a w) (hn : Owes E o st ρ lo w K r next) :
    o.wp E.P a w next Q := by
  unfold evOp at he
  simp only [ho] at he
  split at he
  · rename_i hpc
    split at he
    case h_2 => cases he
    rename_i p q hp hq
    have hx := adr_rel (opnd_rel hr x) hp
    have hy := adr_rel (opnd_rel hr y) hq
    obtain ⟨e, hu, hc⟩ : ∃ e, E.P.underlying t = some (.pointer e) ∧ E.P.cellsOf e ≠ 0 := by
      unfold ptrCmp at hpc
      split at hpc
      · split at hpc
        · rename_i e hu
          refine ⟨e, hu, fun h0 => ?_⟩
          rw [h0] at hpc
          cases hpc
        · cases hpc
      · cases hpc
    have hinv := nilBin_inv he
    have hex : ∃ b, ptrEq st.h p q = some b := by
      rcases hinv with ⟨_, h⟩ | ⟨_, h⟩ <;> (simp only [eqBin, Option.bind_eq_some_iff] at h; obtain ⟨b, hb, _⟩ := h; exact ⟨b, hb⟩)
    obtain ⟨b0, hb0⟩ := hex
    exact eqBin_sound ho rfl rfl (eqGuard_run (ptrEq_run hu hc hr.h hx hy hb0).1 w) (fun b hb => (ptrEq_run hu hc hr.h hx hy hb).2) hinv hr hn
  split at he
  · rename_i xv yv hxs hys
    have hx := opnd_v hr hxs
    have hy := opnd_v hr hys
    have nilcase : ∀ {u v : Value} {rb : Option Bool}, a.eval x = u → a.eval y = v → nilBin op rb (finV E o st K) = some r →
        (∀ b, rb = some b → plainV u = true ∧ (binOp .eql t u v).run E.P w = .ok (.bool b) w ∧ (binOp .neq t u v).run E.P w = .ok (.bool (!b)) w) → o.wp E.P a w next Q := by
      intro u v rb hu hv hnb hall
      have hinv := nilBin_inv hnb
      have hex : ∃ b, rb = some b := by
        rcases hinv with ⟨_, h⟩ | ⟨_, h⟩ <;> (simp only [eqBin, Option.bind_eq_some_iff] at h; obtain ⟨b, hb, _⟩ := h; exact ⟨b, hb⟩)
      obtain ⟨b0, hb0⟩ := hex
      exact eqBin_sound ho hu hv (eqGuard_run (hall b0 hb0).1 w) (fun b hb => (hall b hb).2) hinv hr hn
    unfold binS at he
    split at he
    · generalize hyv : a.eval y = yw at hy
      cases hy
      split at he
      · rename_i e hu
        exact nilcase rfl hyv he (fun b hb => isNil_run hu hx hb w)
      · cases he
    · generalize hyv : a.eval y = yw at hy
      cases hy
      split at he
      · rename_i e hu
        exact nilcase rfl hyv he (fun b hb => isNilS_run hu hx hb w)
      · cases he
    · generalize hyv : a.eval y = yw at hy
      cases hy
      split at he
      · rename_i e hu
        exact nilcase rfl hyv he (fun b hb => isNilM_run hu hx hb w)
      · cases he
    · generalize hyv : a.eval y = yw at hy
      cases hy
      split at he
      · rename_i e hu
        exact nilcase rfl hyv he (fun b hb => isNilF_run hu hx hb w)
      · cases he
    · unfold binX at he
      split at he
      · generalize hxv : a.eval x = xw at hx
        generalize hyv : a.eval y = yw at hy
        cases hx; cases hy
        exact shift_sound ho (.inl rfl) hxv hyv he hr hn
      · generalize hxv : a.eval x = xw at hx
        generalize hyv : a.eval y = yw at hy
        cases hx; cases hy
        exact shift_sound ho (.inr rfl) hxv hyv he hr hn
      · split at he
        · rename_i hk
          subst hk
          generalize hxv : a.eval x = xw at hx
          generalize hyv : a.eval y = yw at hy
          cases hx; cases hy
          exact intBin_sound ho hxv hyv he hr hn
        · cases he
      · generalize hxv : a.eval x = xw at hx
        generalize hyv : a.eval y = yw at hy
        cases hx; cases hy
        exact strBin_sound ho hxv hyv he hr hn
      · split at he
        · rename_i hk
          subst hk
          generalize hxv : a.eval x = xw at hx
          generalize hyv : a.eval y = yw at hy
          cases hx; cases hy
          exact floatBin_sound ho hxv hyv he hr hn
        · cases he
      · split at he
        · rename_i hu
          generalize hxv : a.eval x = xw at hx
          generalize hyv : a.eval y = yw at hy
          cases hx; cases hy
          refine finV_sound he hr hn (binOp_run ho hxv hyv rfl ?_) (.bool _)
          simp [binOp, run_equal_bool w t _ _ hu]
        · cases he
      · split at he
        · rename_i hu
          generalize hxv : a.eval x = xw at hx
          generalize hyv : a.eval y = yw at hy
          cases hx; cases hy
          refine finV_sound he hr hn (binOp_run ho hxv hyv rfl ?_) (.bool _)
          simp [binOp, run_equal_bool w t _ _ hu]
        · cases he
      · split at he
        · rename_i hk
          subst hk
          generalize hxv : a.eval x = xw at hx
          generalize hyv : a.eval y = yw at hy
          cases hx; cases hy
          refine finV_sound he hr hn (binOp_run ho hxv hyv rfl ?_) (.bool _)
          simp [binOp, Op.complexOp, Op.Complex.cmp, Op.floatCmp, Go.asBool, Op.floatEq]
        · cases he
      · split at he
        · rename_i hk
          subst hk
          generalize hxv : a.eval x = xw at hx
          generalize hyv : a.eval y = yw at hy
          cases hx; cases hy
          refine finV_sound he hr hn (binOp_run ho hxv hyv rfl ?_) (.bool _)
          simp [binOp, Op.complexOp, Op.Complex.cmp, Op.floatCmp, Go.asBool, Op.floatEq]
        · cases he
      · simp only [eqBin, Option.bind_eq_some_iff] at he
        obtain ⟨b, hb, he⟩ := he
        obtain ⟨h1, h2, h3⟩ := aggEq_run (op := .eql) (x := x) (y := y) hx hy hb w
        refine finV_sound he hr hn ?_ (.bool _)
        unfold execOp
        simp only [ho, Sem.run_bind, h1, Result.andThen_ok, h2, Sem.run_pure]
      · simp only [eqBin, Option.bind_eq_some_iff] at he
        obtain ⟨b, hb, he⟩ := he
        obtain ⟨h1, h2, h3⟩ := aggEq_run (op := .neq) (x := x) (y := y) hx hy hb w
        refine finV_sound he hr hn ?_ (.bool _)
        unfold execOp
        simp only [ho, Sem.run_bind, h1, Result.andThen_ok, h3, Sem.run_pure]
      · cases he
  · cases he

end ops
end
end Go.L

namespace Go.L
noncomputable section

section ops
variable {R : Type} {E : Env} {o : Oper} {st : St} {K : St → Option R} {r : R} {ρ : Ren} {lo : Nat → Option Nat} {a : Act} {w : World}
  {next : Act → World → Prop} {Q : Exit → Act → World → Prop}

theorem run_getObj {P : Program} {b : Nat} {ob : Obj} (h : w.heap[b]? = some ob) (hc : ∀ c e fr, ob ≠ .cells c e fr) : (getObj b).run P w = .ok ob w := by
  cases ob <;> first | exact absurd rfl (hc _ _ _) | (simp only [getObj, Sem.run, h])

theorem run_setObj {P : Program} {b : Nat} {ob ob' : Obj} (h : w.heap[b]? = some ob) (hc : ∀ c e fr, ob ≠ .cells c e fr) : (setObj b ob').run P w = .ok () { w with heap := w.heap.setIfInBounds b ob' } := by
  cases ob <;> first | exact absurd rfl (hc _ _ _) | (simp only [setObj, Sem.run, h])

def RelM (ρ : Ren) (es : List (V × V)) (ms : List MapEntry) : Prop :=
  es.length = ms.length ∧ ∀ (i : Nat) (e : V × V) (m : MapEntry), es[i]? = some e → ms[i]? = some m → RelV ρ e.1 m.key ∧ RelV ρ e.2 m.val

theorem RelM.tail {e : V × V} {es : List (V × V)} {m : MapEntry} {ms : List MapEntry} (h : RelM ρ (e :: es) (m :: ms)) : RelV ρ e.1 m.key ∧ RelV ρ e.2 m.val ∧ RelM ρ es ms :=
  ⟨(h.2 0 e m rfl rfl).1, (h.2 0 e m rfl rfl).2, by simpa using h.1, fun i e' m' he hm => h.2 (i + 1) e' m' (by simpa using he) (by simpa using hm)⟩

theorem mlook_midx {k : V} : ∀ {es : List (V × V)} {q : Option V}, mlook k es = some q → ∃ qi, midx k es = some qi ∧ q = (match qi with | none => none | some j => (es[j]?).map (·.2))
  | [], q, h => by simp [mlook] at h; subst h; exact ⟨none, rfl, rfl⟩
  | e :: es, q, h => by
    simp only [mlook, Option.bind_eq_some_iff] at h
    obtain ⟨b, hb, h⟩ := h
    split at h
    · rename_i hbt
      cases h
      exact ⟨some 0, by simp [midx, hb, hbt], rfl⟩
    · rename_i hbt
      obtain ⟨qi, h1, h2⟩ := mlook_midx h
      cases qi with
      | none => exact ⟨none, by simp [midx, hb, hbt, h1], h2⟩
      | some j => exact ⟨some (j + 1), by simp [midx, hb, hbt, h1], by simpa using h2⟩

theorem midx_lt {k : V} : ∀ {es : List (V × V)} {j : Nat}, midx k es = some (some j) → j < es.length
  | [], j, h => by simp [midx] at h
  | e :: es, j, h => by
    simp only [midx, Option.bind_eq_some_iff] at h
    obtain ⟨b, hb, h⟩ := h
    split at h
    · cases h; simp
    · simp only [Option.bind_eq_some_iff] at h
      obtain ⟨q, hq, h⟩ := h
      cases q with
      | none => cases h
      | some i =>
        cases h
        have := midx_lt hq
        simpa using this

theorem eqFs_ints {P : Program} {A B : List V} (d : Nat) : ∀ {l : List Field} {i : Nat} {b : Bool}, intFields P i l = true → (A.drop i).length = l.length → keqs (A.drop i) (B.drop i) = some b → eqFs P (eqV P (d + 1)) A B l = some b
  | [], i, b, _, hl, h => by
    have ha : A.drop i = [] := List.length_eq_zero_iff.1 hl
    rw [ha] at h
    cases hb : B.drop i with
    | nil => rw [hb] at h; simpa [eqFs, keqs] using h
    | cons y ys => rw [hb] at h; simp [keqs] at h
  | f :: l, i, b, hf, hl, h => by
    simp only [intFields, Bool.and_eq_true] at hf
    obtain ⟨hn, ho, ht, hr⟩ := hf
    have hn : ¬ f.name = "_" := by simpa using hn
    have ho : f.offset = i := Nat.eq_of_beq_eq_true ho
    split at ht
    case h_2 => cases ht
    rename_i k0 hu
    cases ha : A.drop i with
    | nil => rw [ha] at hl; simp at hl
    | cons x xs =>
      have hx : A[i]? = some x := by rw [← List.head?_drop, ha]; rfl
      have hxs : A.drop (i + 1) = xs := by rw [← List.tail_drop, ha]; rfl
      cases hb : B.drop i with
      | nil => rw [ha, hb] at h; cases x <;> simp [keqs] at h
      | cons y ys =>
        have hy : B[i]? = some y := by rw [← List.head?_drop, hb]; rfl
        have hys : B.drop (i + 1) = ys := by rw [← List.tail_drop, hb]; rfl
        rw [ha, hb] at h
        cases x <;> cases y <;> simp only [keqs] at h <;> try cases h
        rename_i k n k' n'
        split at h
        case isFalse => cases h
        rename_i hk
        subst hk
        simp only [Option.bind_eq_some_iff] at h
        obtain ⟨c, hc, h⟩ := h
        cases h
        have ih := eqFs_ints (A := A) (B := B) d (l := l) (i := i + 1) hr (by rw [hxs]; rw [ha] at hl; simpa using hl) (by rw [hxs, hys]; exact hc)
        simp only [eqFs, if_neg hn, ho]
        have p1 : partV P f.type A i = some (.int k n) := by unfold partV; rw [hu]; simpa using hx
        have p2 : partV P f.type B i = some (.int k n') := by unfold partV; rw [hu]; simpa using hy
        rw [p1, p2, ih]
        simp [eqV, hu, leafEq]

theorem keqs_eq : ∀ {as bs : List V}, keqs as bs = some true → as = bs
  | [], [], _ => rfl
  | [], _ :: _, h => by simp [keqs] at h
  | x :: as, [], h => by cases x <;> simp [keqs] at h
  | x :: as, y :: bs, h => by
    cases x <;> cases y <;> simp only [keqs] at h <;> try cases h
    split at h
    case isFalse => cases h
    rename_i hk
    simp only [Option.bind_eq_some_iff] at h
    obtain ⟨c, hc, h⟩ := h
    have h := Option.some.inj h
    simp only [Bool.and_eq_true, beq_iff_eq] at h
    obtain ⟨h1, h2⟩ := h
    subst h2
    rw [keqs_eq hc, hk, h1]

theorem ints_bits {as : List V} (hi : allInts as = true) {u v : Value} (hu : RelV ρ (.agg as) u) (hv : RelV ρ (.agg as) v) : Instr.sameBits 10000 v u = true := by
  obtain ⟨us, rfl, hus⟩ := agg_inv hu
  obtain ⟨vs, rfl, hvs⟩ := agg_inv hv
  have key : ∀ (as : List V) (us vs : List Value), allInts as = true → RelL ρ as us → RelL ρ as vs → vs.length = us.length ∧ (vs.zip us).all (fun p => Instr.sameBits 9999 p.1 p.2) = true := by
    intro as
    induction as with
    | nil =>
      intro us vs _ h1 h2
      have e1 : us = [] := List.length_eq_zero_iff.1 h1.1.symm
      have e2 : vs = [] := List.length_eq_zero_iff.1 h2.1.symm
      subst e1; subst e2; exact ⟨rfl, rfl⟩
    | cons x as ih =>
      intro us vs hi h1 h2
      cases us with
      | nil => have := h1.1; simp at this
      | cons u us =>
        cases vs with
        | nil => have := h2.1; simp at this
        | cons v vs =>
          cases x <;> simp only [allInts] at hi <;> try cases hi
          rename_i k n
          have r1 := (h1.2 0 _ u rfl rfl).1
          have r2 := (h2.2 0 _ v rfl rfl).1
          cases r1; cases r2
          obtain ⟨i1, i2⟩ := ih us vs hi ⟨by have := h1.1; simpa using this, fun i a b ha hb => h1.2 (i + 1) a b (by simpa using ha) (by simpa using hb)⟩
            ⟨by have := h2.1; simpa using this, fun i a b ha hb => h2.2 (i + 1) a b (by simpa using ha) (by simpa using hb)⟩
          refine ⟨by simp [i1], ?_⟩
          rw [List.zip_cons_cons, List.all_cons, i2]
          simp [Instr.sameBits]
  obtain ⟨k1, k2⟩ := key as us vs hi hus hvs
  show Instr.sameBits (9999 + 1) _ _ = true
  unfold Instr.sameBits
  simp only [Bool.and_eq_true]
  exact ⟨by simp [k1], k2⟩

def flatKey (P : Program) (kt : TypeId) : Bool :=
  match P.underlying kt with
  | some (.struct _) => false
  | _ => true

theorem same_bits {d : TypeDesc} {x y : Value} (h : Instr.sameNow d x y = some true) : Instr.sameBits 10000 y x = true := by
  cases d <;> cases x <;> cases y <;> simp [Instr.sameNow] at h <;> first | (simp [Instr.sameBits, h]; done) | skip
  rw [beq_toListBytes] at h
  simp only [Instr.sameBits]
  rw [beq_toListBytes]
  have := eq_of_beq h
  rw [this]; simp

theorem keq_same {P : Program} {kt : TypeId} {d : TypeDesc} (hu : P.underlying kt = some d) {k k' : V} {x x' : Value} (hok : keyOk P kt k = true) (hs : ∀ fs, d ≠ .struct fs) (hk : RelV ρ k x) (hk' : RelV ρ k' x') {b : Bool} (h : keq k k' = some b) :
    Instr.sameNow d x x' = some b := by
  unfold keyOk at hok
  rw [hu] at hok
  unfold keq at h
  split at h
  · split at h
    · rename_i he
      cases h; subst he
      cases hk; cases hk'
      split at hok
      · rename_i h1 _; cases h1; simp [Instr.sameNow]
      all_goals simp_all
    · cases h
  · cases h
    cases hk; cases hk'
    split at hok <;> simp_all [Instr.sameNow]
  · cases h
    cases hk; cases hk'
    split at hok <;> simp_all [Instr.sameNow]
  · split at hok <;> simp_all
  · cases h

theorem keq_struct {P : Program} {kt : TypeId} {fs : Array Field} (hu : P.underlying kt = some (.struct fs)) {k k' : V} {x x' : Value} (hok : keyOk P kt k = true) (hk : RelV ρ k x) (hk' : RelV ρ k' x') {b : Bool} (h : keq k k' = some b) (w : World) :
    (Op.equal kt x x').run P w = .ok b w ∧ (b = true → Instr.sameBits 10000 x' x = true) := by
  unfold keyOk at hok
  rw [hu] at hok
  split at hok
  case h_5 => cases hok
  case h_1 => rename_i e; cases e
  case h_2 => rename_i e; cases e
  case h_3 => rename_i e; cases e
  rename_i fs' cs e
  cases e
  simp only [Bool.and_eq_true, Bool.not_eq_true'] at hok
  obtain ⟨h1, h2, h3, h4⟩ := hok
  have h4 := Nat.eq_of_beq_eq_true h4
  cases k' <;> simp only [keq] at h <;> try cases h
  rename_i ds
  refine ⟨eqV_run 100 10000 (by omega) hk hk' ?_ w, fun hb => ?_⟩
  · show eqV P (98 + 1 + 1) kt _ _ = _
    rw [eqV, hu]
    simp only [h1]
    rw [if_neg (by simp)]
    exact eqFs_ints 98 (i := 0) h2 (by simpa using h4) (by simpa using h)
  · subst hb
    have e := keqs_eq h
    subst e
    exact ints_bits h3 hk hk'

theorem midx_now {d : TypeDesc} {k : V} {x : Value} (hall : ∀ (k' : V) (x' : Value) (b : Bool), RelV ρ k' x' → keq k k' = some b → Instr.sameNow d x x' = some b) : ∀ {es : List (V × V)} {ms : List MapEntry} (i : Nat) {q : Option Nat},
    RelM ρ es ms → midx k es = some q → (q = none ∧ Instr.findNow d x ms i = some none) ∨ (∃ j m, q = some j ∧ ms[j]? = some m ∧ Instr.sameBits 10000 m.key x = true ∧ Instr.findNow d x ms i = some (some (i + j, m.val)))
  | [], [], i, q, _, h => by simp [midx] at h; subst h; exact .inl ⟨rfl, rfl⟩
  | [], _ :: _, i, q, hm, _ => by have := hm.1; simp at this
  | _ :: _, [], i, q, hm, _ => by have := hm.1; simp at this
  | e :: es, m :: ms, i, q, hm, h => by
    obtain ⟨h1, h2, h3⟩ := hm.tail
    simp only [midx, Option.bind_eq_some_iff] at h
    obtain ⟨b, hb, h⟩ := h
    have hs := hall _ _ _ h1 hb
    split at h
    · rename_i hbt
      subst hbt
      cases h
      exact .inr ⟨0, m, rfl, rfl, same_bits hs, by simp [Instr.findNow, hs]⟩
    · rename_i hbt
      have hbf : b = false := by simpa using hbt
      subst hbf
      simp only [Option.bind_eq_some_iff] at h
      obtain ⟨q', hq', h⟩ := h
      rcases midx_now hall (i + 1) h3 hq' with ⟨rfl, hf⟩ | ⟨j, m', rfl, hj, hv, hf⟩
      · cases h
        exact .inl ⟨rfl, by simp [Instr.findNow, hs, hf]⟩
      · cases h
        exact .inr ⟨j + 1, m', rfl, by simpa using hj, hv, by simp [Instr.findNow, hs, hf]; omega⟩

theorem midx_ask {P : Program} {kt : TypeId} {k : V} {x : Value} {w : World} (hall : ∀ (k' : V) (x' : Value) (b : Bool), RelV ρ k' x' → keq k k' = some b → (Op.equal kt x x').run P w = .ok b w ∧ (b = true → Instr.sameBits 10000 x' x = true)) : ∀ {es : List (V × V)} {ms : List MapEntry} (i : Nat) {q : Option Nat},
    RelM ρ es ms → midx k es = some q → (q = none ∧ (Instr.findAsking kt x ms i).run P w = .ok none w) ∨ (∃ j m, q = some j ∧ ms[j]? = some m ∧ Instr.sameBits 10000 m.key x = true ∧ (Instr.findAsking kt x ms i).run P w = .ok (some (i + j, m.val)) w)
  | [], [], i, q, _, h => by simp [midx] at h; subst h; exact .inl ⟨rfl, rfl⟩
  | [], _ :: _, i, q, hm, _ => by have := hm.1; simp at this
  | _ :: _, [], i, q, hm, _ => by have := hm.1; simp at this
  | e :: es, m :: ms, i, q, hm, h => by
    obtain ⟨h1, h2, h3⟩ := hm.tail
    simp only [midx, Option.bind_eq_some_iff] at h
    obtain ⟨b, hb, h⟩ := h
    obtain ⟨hs, hbits⟩ := hall _ _ _ h1 hb
    split at h
    · rename_i hbt
      subst hbt
      cases h
      exact .inr ⟨0, m, rfl, rfl, hbits rfl, by simp [Instr.findAsking, hs]⟩
    · rename_i hbt
      have hbf : b = false := by simpa using hbt
      subst hbf
      simp only [Option.bind_eq_some_iff] at h
      obtain ⟨q', hq', h⟩ := h
      rcases midx_ask hall (i + 1) h3 hq' with ⟨rfl, hf⟩ | ⟨j, m', rfl, hj, hv, hf⟩
      · cases h
        exact .inl ⟨rfl, by simp [Instr.findAsking, hs, hf]⟩
      · cases h
        exact .inr ⟨j + 1, m', rfl, by simpa using hj, hv, by simp [Instr.findAsking, hs, hf]; omega⟩

theorem midx_run {P : Program} {kt : TypeId} {k : V} {x : Value} (hok : keyOk P kt k = true) (hk : RelV ρ k x) {es : List (V × V)} {ms : List MapEntry} {q : Option Nat} (hm : RelM ρ es ms) (h : midx k es = some q) (w : World) :
    (q = none ∧ (Instr.findKey kt x ms).run P w = .ok none w) ∨ (∃ j m, q = some j ∧ ms[j]? = some m ∧ Instr.sameBits 10000 m.key x = true ∧ (Instr.findKey kt x ms).run P w = .ok (some (j, m.val)) w) := by
  obtain ⟨d, hd⟩ : ∃ d, P.underlying kt = some d := by
    unfold keyOk at hok
    cases hd : P.underlying kt with
    | none => rw [hd] at hok; cases hok
    | some d => exact ⟨d, rfl⟩
  by_cases hst : ∃ fs, d = .struct fs
  · obtain ⟨fs, rfl⟩ := hst
    cases ms with
    | nil =>
      rcases midx_ask (P := P) (kt := kt) (w := w) (fun k' x' b h1 h2 => keq_struct hd hok hk h1 h2 w) 0 hm h with ⟨h1, h2⟩ | ⟨j, m, h1, h2, _⟩
      · exact .inl ⟨h1, by simp [Instr.findKey, run_underlying hd, Instr.findNow]⟩
      · simp at h2
    | cons m ms =>
      have e : ∀ i, Instr.findNow (.struct fs) x (m :: ms) i = none := fun i => by simp [Instr.findNow, Instr.sameNow]
      have e2 : (Instr.findKey kt x (m :: ms)).run P w = (Instr.findAsking kt x (m :: ms) 0).run P w := by
        simp [Instr.findKey, run_underlying hd, e]
      rw [e2]
      rcases midx_ask (P := P) (kt := kt) (w := w) (fun k' x' b h1 h2 => keq_struct hd hok hk h1 h2 w) 0 hm h with h1 | ⟨j, m', h1, h2, h3, h4⟩
      · exact .inl h1
      · exact .inr ⟨j, m', h1, h2, h3, by rw [h4, Nat.zero_add]⟩
  · rcases midx_now (fun k' x' b h1 h2 => keq_same hd hok (fun fs e => hst ⟨fs, e⟩) hk h1 h2) 0 hm h with ⟨h1, h2⟩ | ⟨j, m', h1, h2, h3, h4⟩
    · exact .inl ⟨h1, by simp [Instr.findKey, run_underlying hd, h2]⟩
    · exact .inr ⟨j, m', h1, h2, h3, by simp [Instr.findKey, run_underlying hd, h4]⟩

theorem checkKey_int {P : Program} {t : TypeId} {k : IntKind} (h : P.underlying t = some (.int k)) (n : Nat) (v : Value) (empty : Bool) (w : World) : (Instr.checkKey empty (n + 1) t v).run P w = .ok () w := by
  unfold Instr.checkKey
  simp [run_underlying h]

theorem checkKey_run {P : Program} {kt : TypeId} {k : V} {x : Value} (hok : keyOk P kt k = true) (hk : RelV ρ k x) (empty : Bool) : (Instr.checkKey empty 10000 kt x).run P w = .ok () w := by
  show (Instr.checkKey empty (9999 + 1) kt x).run P w = _
  unfold keyOk at hok
  split at hok
  · rename_i h
    cases hk
    unfold Instr.checkKey
    simp [run_underlying h]
  · rename_i h
    cases hk
    unfold Instr.checkKey
    simp [run_underlying h]
  · rename_i h
    cases hk
    unfold Instr.checkKey
    simp [run_underlying h]
  · rename_i fs cs h
    obtain ⟨xs, rfl, hxs⟩ := agg_inv hk
    simp only [Bool.and_eq_true, Bool.not_eq_true'] at hok
    obtain ⟨_, h2, _, h4⟩ := hok
    have h4 := Nat.eq_of_beq_eq_true h4
    have key : ∀ (l : List Field) (i : Nat), intFields P i l = true → i + l.length = xs.length →
        (forIn l PUnit.unit fun f _ => (do
          if f.name ≠ "_" then Instr.checkKey empty 9999 f.type (← part f.type xs.toArray f.offset)
          pure (ForInStep.yield PUnit.unit) : Sem (ForInStep PUnit))).run P w = .ok PUnit.unit w := by
      intro l
      induction l with
      | nil => intro i _ _; simp
      | cons f l ih =>
        intro i hf hl
        simp only [intFields, Bool.and_eq_true] at hf
        obtain ⟨hn, ho, ht, hr⟩ := hf
        have hn : f.name ≠ "_" := by simpa using hn
        have ho : f.offset = i := Nat.eq_of_beq_eq_true ho
        split at ht
        case h_2 => cases ht
        rename_i k0 hu
        have hi : i < xs.length := by simp at hl; omega
        have hp := part_leaf (P := P) hu rfl (ys := xs) (off := i) (List.getElem?_eq_getElem hi) w
        have hc := checkKey_int hu 9998 xs[i] empty w
        have := ih (i + 1) hr (by simp at hl; omega)
        simp only [List.forIn_cons, ho, if_pos hn, Sem.run_bind, hp, Result.andThen_ok, hc, Sem.run_pure]
        simpa using this
    unfold Instr.checkKey
    have := key fs.toList 0 h2 (by rw [Nat.zero_add, ← h4]; exact hxs.1)
    simp only [Sem.run_bind, run_underlying h, Result.andThen_ok]
    rw [← Array.forIn_toList]
    simp at this ⊢
    rw [this]
    rfl
  · cases hok

theorem keyOk_underlying {P : Program} {kt : TypeId} {k : V} (hok : keyOk P kt k = true) : ∃ d, P.underlying kt = some d := by
  unfold keyOk at hok
  split at hok
  · rename_i h; exact ⟨_, h⟩
  · rename_i h; exact ⟨_, h⟩
  · rename_i h; exact ⟨_, h⟩
  · rename_i h; exact ⟨_, h⟩
  · cases hok

theorem hmap_rel {h : H} (hh : RelH ρ h w) {m : V} {y : Value} (hm : RelV ρ m y) {es : List (V × V)} (he : hmap h m = some es) :
    (y = .map none ∧ m = .nilm ∧ es = []) ∨ ∃ id g ms c bs, y = .map (some g.blk) ∧ m = .map id ∧ ρ.wr id = some g ∧ h[id]? = some (.map c bs es) ∧ w.heap[g.blk]? = some (.map ms c) ∧ bs = ms.toList.map (·.born) ∧ RelM ρ es ms.toList := by
  unfold hmap at he
  split at he
  · cases he; cases hm; exact .inl ⟨rfl, rfl, rfl⟩
  · rename_i id
    split at he
    · rename_i c bs es' hid
      cases he
      obtain ⟨g, hg⟩ := hh.live id _ hid rfl
      obtain ⟨o1, ob, h1, h2, h3, h4⟩ := hh.obj id g hg
      rw [hid] at h1; cases h1
      cases ob with
      | map ms clock =>
        cases hm with
        | map _ r k1 k2 =>
          have := k2 g h4 hg
          subst this
          obtain ⟨⟨rfl, hbs⟩, h5, h6⟩ := h3
          exact .inr ⟨id, g, ms, _, bs, rfl, rfl, hg, hid, h2, hbs, by simp [h5], fun i e m he hm => h6 i e m he (by simpa using hm)⟩
      | _ => exact h3.elim
    · cases he
  · cases he

theorem lookup_sound {t : TypeId} {x i : Operand} {ok : Bool} (ho : o.op = .lookup t x i ok) (he : evOp E o st K = some r) (hr : RelA E.n ρ lo st a w) (hn : Owes E o st ρ lo w K r next) :
    o.wp E.P a w next Q := by
  unfold evOp at he
  simp only [ho] at he
  split at he
  · rename_i m key kt et hm hkey hu
    split at he
    · rename_i hok
      simp only [Option.bind_eq_some_iff] at he
      obtain ⟨es, hes, q, hq, z0, hz0, he⟩ := he
      have hmv := opnd_v hr hm
      have hkv := opnd_v hr hkey
      unfold zeroVal at hz0
      simp only [Option.bind_eq_some_iff] at hz0
      obtain ⟨zv, ⟨inf, hi, hz⟩, hzc⟩ := hz0
      have hzrel := cstA_rel ρ hzc
      obtain ⟨qi, hqi, hqe⟩ := mlook_midx hq
      have main : ∃ y, RelV ρ (q.getD z0) y ∧ (Instr.lookup t (a.eval x) (a.eval i) ok).run E.P w = .ok (if ok then .tuple #[y, .bool q.isSome] else y) w := by
        rcases hmap_rel hr.h hmv hes with ⟨hy, _, rfl⟩ | ⟨id, g, ms, c, bs, hy, _, hg, _, hwb, _, hrm⟩
        · simp [mlook] at hq
          subst hq
          refine ⟨zv, hzrel, ?_⟩
          rcases midx_run hok hkv (es := []) (ms := []) ⟨rfl, by simp⟩ hqi w with ⟨_, hf⟩ | ⟨j, m', _, hj, _⟩
          · simp [Instr.lookup, run_underlying hu, hy, checkKey_run hok hkv, hf, run_zeroValue hi hz]
          · simp at hj
        · have hgo := run_getObj (P := E.P) hwb (by simp)
          rcases midx_run hok hkv hrm hqi w with ⟨rfl, hf⟩ | ⟨j, m', rfl, hj, _, hf⟩
          · simp only at hqe
            subst hqe
            refine ⟨zv, hzrel, ?_⟩
            simp [Instr.lookup, run_underlying hu, hy, hgo, checkKey_run hok hkv, hf, run_zeroValue hi hz]
          · have hlt := midx_lt hqi
            simp only [List.getElem?_eq_getElem hlt, Option.map_some] at hqe
            subst hqe
            refine ⟨m'.val, (hrm.2 j _ m' (List.getElem?_eq_getElem hlt) hj).2, ?_⟩
            simp [Instr.lookup, run_underlying hu, hy, hgo, checkKey_run hok hkv, hf]
      obtain ⟨y, hy, hrun⟩ := main
      obtain ⟨v, hv, he⟩ := tyDest1_inv he
      cases hv
      split at he
      · refine finV_sound he hr hn (y := .tuple #[y, .bool q.isSome]) ?_ (.tup _ _ rfl fun k v' x' h1 h2 => ?_)
        · unfold execOp; simp [ho, hrun]
        · match k, h1, h2 with
          | 0, h1, h2 => simp at h1 h2; subst h1; subst h2; exact hy
          | 1, h1, h2 => simp at h1 h2; subst h1; subst h2; exact .bool _
          | k + 2, h1, h2 => simp at h1
      · exact finV_sound he hr hn (y := y) (by unfold execOp; simp [ho, hrun]) hy
    · cases he
  · cases he

end ops
end
end Go.L

namespace Go.L
noncomputable section

section ops
variable {R : Type} {E : Env} {o : Oper} {st : St} {K : St → Option R} {r : R} {ρ : Ren} {lo : Nat → Option Nat} {a : Act} {w : World}
  {next : Act → World → Prop} {Q : Exit → Act → World → Prop}

theorem map_set (hr : RelA E.n ρ lo st a w) {id : Nat} {g : Img} (hg : ρ.wr id = some g) {c c' : Nat} {bs bs' : List Nat} {es es' : List (V × V)} (hid : st.h[id]? = some (.map c bs es))
    {ms' : Array MapEntry} (hbs : bs' = ms'.toList.map (·.born)) (hrm : RelM ρ es' ms'.toList) :
    RelA E.n ρ lo ⟨st.s, st.l, st.h.set id (.map c' bs' es')⟩ a { w with heap := w.heap.setIfInBounds g.blk (.map ms' c') } ∧
      Step ρ lo w ρ lo { w with heap := w.heap.setIfInBounds g.blk (.map ms' c') } := by
  have hlt := hr.h.blk_lt hg
  have hoth : ∀ b, b ≠ g.blk → ({ w with heap := w.heap.setIfInBounds g.blk (.map ms' c') } : World).heap[b]? = w.heap[b]? := by
    intro b hb
    show (w.heap.setIfInBounds g.blk _)[b]? = _
    rw [Array.getElem?_setIfInBounds, if_neg (fun e => hb e.symm)]
  have hsz : ({ w with heap := w.heap.setIfInBounds g.blk (.map ms' c') } : World).heap.size = w.heap.size := by simp
  have hh : RelH ρ (st.h.set id (.map c' bs' es')) { w with heap := w.heap.setIfInBounds g.blk (.map ms' c') } := by
    refine hr.h.set_cells (o' := .map c' bs' es') (ob' := .map ms' c') hg hid rfl ?_ ⟨⟨rfl, hbs⟩, by have := hrm.1; simpa using this.symm, fun i e m he hm => hrm.2 i e m he (by simpa using hm)⟩ hoth
    show (w.heap.setIfInBounds g.blk _)[g.blk]? = _
    rw [Array.getElem?_setIfInBounds, if_pos rfl, if_pos hlt]
  exact ⟨hr.of_heap hh hsz hg hoth, step_in hsz hg (still_of rfl rfl (by omega)) hoth⟩

theorem RelM.push {es : List (V × V)} {ms : Array MapEntry} (hrm : RelM ρ es ms.toList) {k v : V} {e : MapEntry} (hk : RelV ρ k e.key) (hv : RelV ρ v e.val) : RelM ρ (es ++ [(k, v)]) (ms.push e).toList := by
  refine ⟨by have := hrm.1; simpa using this, fun i e' m he hm => ?_⟩
  have hl := hrm.1
  simp only [Array.toList_push] at hm
  by_cases hk' : i < es.length
  · rw [List.getElem?_append_left hk'] at he
    rw [List.getElem?_append_left (by omega)] at hm
    exact hrm.2 i e' m he hm
  · rw [List.getElem?_append_right (by omega)] at he
    rw [List.getElem?_append_right (by omega)] at hm
    rw [hl] at he
    cases hkk : i - ms.toList.length with
    | zero => rw [hkk] at he hm; simp at he hm; subst he; subst hm; exact ⟨hk, hv⟩
    | succ n => rw [hkk] at he; simp at he

theorem RelM.setAt {es : List (V × V)} {ms : Array MapEntry} (hrm : RelM ρ es ms.toList) {j : Nat} {m' : MapEntry} (hmj : ms[j]? = some m') {k v : V} {f : MapEntry → MapEntry} (hk : RelV ρ k (f m').key) (hv : RelV ρ v (f m').val) :
    RelM ρ (es.set j (k, v)) (ms.modify j f).toList := by
  refine ⟨by have := hrm.1; simpa using this, fun i e m he hm => ?_⟩
  rw [Array.getElem?_toList, Array.getElem?_modify] at hm
  rw [List.getElem?_set] at he
  by_cases hi : j = i
  · rw [if_pos hi] at he hm
    split at he
    · cases he
      subst hi
      rw [hmj] at hm
      simp at hm
      subst hm
      exact ⟨hk, hv⟩
    · cases he
  · rw [if_neg hi] at he hm
    exact hrm.2 i e m he (by simpa using hm)

theorem born_modify (ms : Array MapEntry) (j : Nat) (f : MapEntry → MapEntry) (hf : ∀ m, (f m).born = m.born) : (ms.modify j f).toList.map (·.born) = ms.toList.map (·.born) := by
  apply List.ext_getElem?
  intro i
  rw [List.getElem?_map, List.getElem?_map, Array.getElem?_toList, Array.getElem?_toList, Array.getElem?_modify]
  split
  · cases ms[i]? <;> simp [hf]
  · rfl

theorem map_erase {α β : Type} (f : α → β) (l : List α) (j : Nat) : (l.map f).eraseIdx j = (l.eraseIdx j).map f := by
  apply List.ext_getElem?
  intro i
  rw [List.getElem?_eraseIdx, List.getElem?_map, List.getElem?_map, List.getElem?_map, List.getElem?_eraseIdx]
  split <;> rfl

theorem keyStays {P : Program} {old new : Value} (h : Instr.sameBits 10000 old new = true) (w : World) : (Instr.keyThatStays old new).run P w = .ok new w := by
  unfold Instr.keyThatStays
  rw [if_pos h]
  rfl

theorem mapUpdate_main {t kt et : TypeId} {x i v : Operand} (ho : o.op = .mapUpdate t x i v) (hu : E.P.underlying t = some (.map kt et)) {m key xv : V} {h' : H} (hok : keyOk E.P kt key = true)
    (hmv : RelV ρ m (a.eval x)) (hkv : RelV ρ key (a.eval i)) (hxv : RelV ρ xv (a.eval v)) (hset : hmapset st.h m key xv = some h') (he : fin E o st K .bad st.l h' = some r)
    (hr : RelA E.n ρ lo st a w) (hn : Owes E o st ρ lo w K r next) : o.wp E.P a w next Q := by
  unfold hmapset at hset
  split at hset
  case h_2 => cases hset
  rename_i id
  split at hset
  case h_2 => cases hset
  rename_i c bs es hid
  simp only [Option.bind_eq_some_iff] at hset
  obtain ⟨qi, hqi, hset⟩ := hset
  rcases hmap_rel hr.h hmv (show hmap st.h (.map id) = some es by simp [hmap, hid]) with ⟨hy, h1, _⟩ | ⟨id', g, ms, c', bs', hy, hmi, hg, hid', hwb, hbs, hrm⟩
  · cases h1
  · cases hmi
    rw [hid] at hid'; cases hid'
    have hgo := run_getObj (P := E.P) hwb (by simp)
    have hso := fun ob' => run_setObj (P := E.P) (ob' := ob') hwb (by simp)
    rcases midx_run hok hkv hrm hqi w with ⟨rfl, hf⟩ | ⟨j, m', rfl, hj, hbits, hf⟩
    · cases hset
      obtain ⟨h1, h2⟩ := map_set (c' := c + 1) (bs' := bs ++ [c]) hr hg hid (ms' := ms.push { key := a.eval i, val := a.eval v, born := c }) (by simp [hbs]) (hrm.push (e := { key := a.eval i, val := a.eval v, born := c }) hkv hxv)
      refine upon_skip ?_ (fin_sound he h1 (v := undef) trivial h2 hn)
      unfold execOp
      simp [ho, Instr.mapUpdate, run_underlying hu, hy, hgo, checkKey_run hok hkv, hf, hso]
    · cases hset
      have hmj : ms[j]? = some m' := by simpa using hj
      obtain ⟨h1, h2⟩ := map_set (c' := c) (bs' := bs) hr hg hid (ms' := ms.modify j fun e => { e with key := a.eval i, val := a.eval v })
        (hbs.trans (born_modify ms j (fun e => { e with key := a.eval i, val := a.eval v }) (fun _ => rfl)).symm) (hrm.setAt hmj (f := fun e => { e with key := a.eval i, val := a.eval v }) hkv hxv)
      refine upon_skip ?_ (fin_sound he h1 (v := undef) trivial h2 hn)
      unfold execOp
      simp [ho, Instr.mapUpdate, run_underlying hu, hy, hgo, checkKey_run hok hkv, hf, hmj, keyStays hbits, hso]

theorem mapUpdate_sound {t : TypeId} {x i v : Operand} (ho : o.op = .mapUpdate t x i v) (he : evOp E o st K = some r) (hr : RelA E.n ρ lo st a w) (hn : Owes E o st ρ lo w K r next) :
    o.wp E.P a w next Q := by
  unfold evOp at he
  simp only [ho] at he
  split at he
  · rename_i m key xv kt et hm hkey hxs hu
    split at he
    · rename_i hok
      split at he
      · simp only [Option.bind_eq_some_iff] at he
        obtain ⟨h', hset, he⟩ := he
        have hmv := opnd_v hr hm
        have hkv := opnd_v hr hkey
        have hxv := opnd_v hr hxs
        exact mapUpdate_main ho hu hok hmv hkv hxv hset he hr hn
      · simp only [Option.bind_eq_some_iff] at he
        obtain ⟨h', hset, he⟩ := he
        have hmv := opnd_v hr hm
        have hkv := opnd_v hr hkey
        have hxv := opnd_v hr hxs
        exact mapUpdate_main ho hu hok hmv hkv hxv hset he hr hn
      · cases he
    · cases he
  · cases he

theorem builtin_run {c : Call} {b : Builtin} (ho : o.op = .call c) (hc : c.callee = .builtin b) {w' : World} {y : Value}
    (h : ∀ cs, (builtin b c.argTypes o.type cs (c.args.map a.eval)).run E.P w = .ok (.value y) w') : (execOp a.eval o).run E.P w = .ok (.value y) w' := by
  unfold execOp
  simp only [ho, resolve, hc, pure_bind, invoke]
  exact h _

theorem args1 {l : Array Operand} {v : V} (h1 : [v].length = l.toList.length) (h2 : ∀ (i : Nat) (u : V) (x : Operand), [v][i]? = some u → l.toList[i]? = some x → RelV ρ u (a.eval x)) :
    ∃ y, l.map a.eval = #[y] ∧ RelV ρ v y := by
  match l, h1, h2 with
  | ⟨[x]⟩, _, h2 => exact ⟨a.eval x, by simp, h2 0 v x rfl rfl⟩

theorem args2 {l : Array Operand} {u v : V} (h1 : [u, v].length = l.toList.length) (h2 : ∀ (i : Nat) (u' : V) (x : Operand), [u, v][i]? = some u' → l.toList[i]? = some x → RelV ρ u' (a.eval x)) :
    ∃ y z, l.map a.eval = #[y, z] ∧ RelV ρ u y ∧ RelV ρ v z := by
  match l, h1, h2 with
  | ⟨[x, x']⟩, _, h2 => exact ⟨a.eval x, a.eval x', by simp, h2 0 u x rfl rfl, h2 1 v x' rfl rfl⟩

theorem len_sound {c : Call} (ho : o.op = .call c) (hc : c.callee = .builtin .len) {x : V} {xs : Value} (hargs : c.args.map a.eval = #[xs]) (hx : RelV ρ x xs)
    (he : evBuiltin E o .len c.argTypes [x] st K = some r) (hr : RelA E.n ρ lo st a w) (hn : Owes E o st ρ lo w K r next) : o.wp E.P a w next Q := by
  simp only [evBuiltin] at he
  split at he
  · rename_i hu
    simp only [Option.bind_eq_some_iff] at hu
    obtain ⟨t, ht, hu⟩ := hu
    split at he
    · cases hx
      refine finV_sound he hr hn (builtin_run ho hc fun cs => ?_) (.int _ _)
      simp [builtin, hargs, Builtin.len_, ht, run_underlying hu, goInt]
    · cases he
  · rename_i e hu
    simp only [Option.bind_eq_some_iff] at hu
    obtain ⟨t, ht, hu⟩ := hu
    simp only [Option.bind_eq_some_iff] at he
    obtain ⟨n, hn', he⟩ := he
    obtain ⟨ad, len, cap, hy, rfl, _⟩ := slen_rel hx hn'
    subst hy
    refine finV_sound he hr hn (builtin_run ho hc fun cs => ?_) (.int _ _)
    simp [builtin, hargs, Builtin.len_, ht, run_underlying hu, goInt]
  · rename_i n e hu
    simp only [Option.bind_eq_some_iff] at hu
    obtain ⟨t, ht, hu⟩ := hu
    refine finV_sound he hr hn (builtin_run ho hc fun cs => ?_) (.int _ _)
    simp [builtin, hargs, Builtin.len_, ht, run_underlying hu, goInt]
  · rename_i k e hu
    simp only [Option.bind_eq_some_iff] at hu
    obtain ⟨t, ht, hu⟩ := hu
    simp only [Option.bind_eq_some_iff] at he
    obtain ⟨es, hes, he⟩ := he
    rcases hmap_rel hr.h hx hes with ⟨hy, _, rfl⟩ | ⟨id, g, ms, clock, bs, hy, _, hg, _, hwb, _, hrm⟩
    · subst hy
      refine finV_sound he hr hn (builtin_run ho hc fun cs => ?_) (.int _ _)
      simp [builtin, hargs, Builtin.len_, ht, run_underlying hu, goInt]
    · subst hy
      have hgo := run_getObj (P := E.P) hwb (by simp)
      have hl : es.length = ms.size := by have := hrm.1; simpa using this
      refine finV_sound he hr hn (builtin_run ho hc fun cs => ?_) (.int _ _)
      simp [builtin, hargs, Builtin.len_, ht, run_underlying hu, goInt, hgo, hl]
  · cases he

theorem delete_sound {c : Call} (ho : o.op = .call c) (hc : c.callee = .builtin .delete) {m key : V} {y z : Value} (hargs : c.args.map a.eval = #[y, z]) (hm : RelV ρ m y) (hkv : RelV ρ key z)
    (he : evBuiltin E o .delete c.argTypes [m, key] st K = some r) (hr : RelA E.n ρ lo st a w) (hn : Owes E o st ρ lo w K r next) : o.wp E.P a w next Q := by
  simp only [evBuiltin] at he
  split at he
  · rename_i kt et hu
    simp only [Option.bind_eq_some_iff] at hu
    obtain ⟨t, ht, hu⟩ := hu
    split at he
    · rename_i hok
      simp only [Option.bind_eq_some_iff] at he
      obtain ⟨h', hdel, he⟩ := he
      unfold hmapdel at hdel
      split at hdel
      · cases hdel
        cases hm
        refine upon_of (w' := w) (v := .tuple #[]) (builtin_run ho hc fun cs => ?_) (fin_sound he hr (.tup _ _ rfl (by simp)) (Step.refl _ _ _) hn)
        simp [builtin, hargs, Builtin.delete_, ht, run_underlying hu, checkKey_run hok hkv]
      · rename_i id
        split at hdel
        · rename_i c bs es hid
          simp only [Option.bind_eq_some_iff] at hdel
          obtain ⟨qi, hqi, hdel⟩ := hdel
          rcases hmap_rel hr.h hm (show hmap st.h (.map id) = some es by simp [hmap, hid]) with ⟨hy, h1, _⟩ | ⟨id', g, ms, c', bs', hy, hmi, hg, hid', hwb, hbs, hrm⟩
          · cases h1
          · cases hmi
            rw [hid] at hid'; cases hid'
            subst hy
            have hgo := run_getObj (P := E.P) hwb (by simp)
            have hso := fun ob' => run_setObj (P := E.P) (ob' := ob') hwb (by simp)
            rcases midx_run hok hkv hrm hqi w with ⟨rfl, hf⟩ | ⟨j, m', rfl, hj, _, hf⟩
            · cases hdel
              obtain ⟨h1, h2⟩ := map_set (c' := c) hr hg hid hbs hrm
              refine upon_of (v := .tuple #[]) (builtin_run ho hc fun cs => ?_) (fin_sound he h1 (x := .v (.tup [])) (.tup _ _ rfl (by simp)) h2 hn)
              simp [builtin, hargs, Builtin.delete_, ht, run_underlying hu, hgo, checkKey_run hok hkv, hf, hso]
            · cases hdel
              have hjl : j < ms.size := by have := (List.getElem?_eq_some_iff.1 hj).1; simpa using this
              have e1 : (ms.eraseIdxIfInBounds j).toList = ms.toList.eraseIdx j := by simp [Array.eraseIdxIfInBounds, hjl]
              have hrm' : RelM ρ (es.eraseIdx j) (ms.eraseIdxIfInBounds j).toList := by
                have hl := hrm.1
                rw [e1]
                refine ⟨by simp only [List.length_eraseIdx]; rw [hl], fun k e m he hm => ?_⟩
                rw [List.getElem?_eraseIdx] at he hm
                split at he
                · rename_i hk; rw [if_pos hk] at hm; exact hrm.2 k e m he hm
                · rename_i hk; rw [if_neg hk] at hm; exact hrm.2 (k + 1) e m he hm
              obtain ⟨h1, h2⟩ := map_set (c' := c) (bs' := bs.eraseIdx j) hr hg hid (by rw [e1, hbs, map_erase]) hrm'
              refine upon_of (v := .tuple #[]) (builtin_run ho hc fun cs => ?_) (fin_sound he h1 (x := .v (.tup [])) (.tup _ _ rfl (by simp)) h2 hn)
              simp [builtin, hargs, Builtin.delete_, ht, run_underlying hu, hgo, checkKey_run hok hkv, hf, hso]
        · cases hdel
      · cases hdel
    · cases he
  · cases he

theorem small_sound {c : Call} {b : Builtin} (ho : o.op = .call c) (hc : c.callee = .builtin b) {vs : List V} (hvs : vs.length = c.args.toList.length)
    (hrel : ∀ (i : Nat) (v : V) (x : Operand), vs[i]? = some v → c.args.toList[i]? = some x → RelV ρ v (a.eval x)) (hb : b = .min ∨ b = .max ∨ b = .real ∨ b = .imag ∨ b = .complex)
    (he : evBuiltin E o b c.argTypes vs st K = some r) (hr : RelA E.n ρ lo st a w) (hn : Owes E o st ρ lo w K r next) : o.wp E.P a w next Q := by
  rcases hb with rfl | rfl | rfl | rfl | rfl
  · match vs, hvs, hrel, he with
    | [x, y], hvs, hrel, he =>
      obtain ⟨u, v, hargs, hx, hy⟩ := args2 hvs hrel
      simp only [evBuiltin, min2] at he
      split at he
      · split at he
        · rename_i hk
          subst hk
          cases hx; cases hy
          refine finV_sound he hr hn (builtin_run ho hc fun cs => ?_) (.int _ _)
          simp [builtin, hargs, Builtin.min_, Builtin.min2]
        · cases he
      · cases he
    | [], _, _, he => simp [evBuiltin] at he
    | [_], _, _, he => simp [evBuiltin] at he
    | _ :: _ :: _ :: _, _, _, he => simp [evBuiltin] at he
  · match vs, hvs, hrel, he with
    | [x, y], hvs, hrel, he =>
      obtain ⟨u, v, hargs, hx, hy⟩ := args2 hvs hrel
      simp only [evBuiltin, min2] at he
      split at he
      · split at he
        · rename_i hk
          subst hk
          cases hx; cases hy
          refine finV_sound he hr hn (builtin_run ho hc fun cs => ?_) (.int _ _)
          simp [builtin, hargs, Builtin.max_, Builtin.max2]
        · cases he
      · cases he
    | [], _, _, he => simp [evBuiltin] at he
    | [_], _, _, he => simp [evBuiltin] at he
    | _ :: _ :: _ :: _, _, _, he => simp [evBuiltin] at he
  · match vs, hvs, hrel, he with
    | [x], hvs, hrel, he =>
      obtain ⟨u, hargs, hx⟩ := args1 hvs hrel
      cases x <;> simp only [evBuiltin] at he <;> first | cases he | skip
      cases hx
      refine finV_sound he hr hn (builtin_run ho hc fun cs => ?_) (.float _ _)
      rw [hargs]
      rfl
    | [], _, _, he => simp [evBuiltin] at he
    | _ :: _ :: _, _, _, he => simp [evBuiltin] at he
  · match vs, hvs, hrel, he with
    | [x], hvs, hrel, he =>
      obtain ⟨u, hargs, hx⟩ := args1 hvs hrel
      cases x <;> simp only [evBuiltin] at he <;> first | cases he | skip
      cases hx
      refine finV_sound he hr hn (builtin_run ho hc fun cs => ?_) (.float _ _)
      rw [hargs]
      rfl
    | [], _, _, he => simp [evBuiltin] at he
    | _ :: _ :: _, _, _, he => simp [evBuiltin] at he
  · match vs, hvs, hrel, he with
    | [x, y], hvs, hrel, he =>
      obtain ⟨u, v, hargs, hx, hy⟩ := args2 hvs hrel
      cases x <;> simp only [evBuiltin] at he <;> first | cases he | skip
      cases y <;> simp only at he <;> first | cases he | skip
      split at he
      · rename_i hk
        subst hk
        cases hx; cases hy
        refine finV_sound he hr hn (builtin_run ho hc fun cs => ?_) (.cplx _ _ _)
        rw [hargs]
        rename_i k x' y'
        have e : ∀ (k : FloatKind) (p q : Nat), Builtin.complex_ c.argTypes o.type #[.float k p, .float k q] = if k = k then pure (.complex k p q) else stuck "complex: parts of different kinds" := fun _ _ _ => rfl
        simp [builtin, e]
      · cases he
    | [], _, _, he => simp [evBuiltin] at he
    | [_], _, _, he => simp [evBuiltin] at he
    | _ :: _ :: _ :: _, _, _, he => simp [evBuiltin] at he

end ops
end
end Go.L

namespace Go.L
noncomputable section

theorem flat_get : ∀ {xs : List V} {es : Nat}, es ≠ 0 → (∀ v ∈ xs, v.cells.length = es) → ∀ (k : Nat) (y : V), (xs.flatMap V.cells)[k]? = some y → ∃ i j v, k = i * es + j ∧ xs[i]? = some v ∧ v.cells[j]? = some y ∧ j < es
  | [], es, _, _, k, y, h => by simp at h
  | x :: xs, es, he, hx, k, y, h => by
    rw [List.flatMap_cons] at h
    have hl := hx x (by simp)
    by_cases hk : k < es
    · rw [List.getElem?_append_left (by omega)] at h
      exact ⟨0, k, x, by omega, rfl, h, hk⟩
    · rw [List.getElem?_append_right (by omega), hl] at h
      obtain ⟨i, j, v, h1, h2, h3, h4⟩ := flat_get he (fun v hv => hx v (by simp [hv])) (k - es) y h
      exact ⟨i + 1, j, v, by rw [Nat.add_mul, Nat.one_mul]; omega, by simpa using h2, h3, h4⟩

theorem flat_length {es : Nat} : ∀ {xs : List V}, (∀ v ∈ xs, v.cells.length = es) → (xs.flatMap V.cells).length = xs.length * es
  | [], _ => by simp
  | x :: xs, h => by
    rw [List.flatMap_cons, List.length_append, h x (by simp), flat_length (fun v hv => h v (by simp [hv]))]
    simp [Nat.add_mul]; omega

section ops
variable {R : Type} {E : Env} {o : Oper} {st : St} {K : St → Option R} {r : R} {ρ : Ren} {lo : Nat → Option Nat} {a : Act} {w : World}
  {next : Act → World → Prop} {Q : Exit → Act → World → Prop}

theorem cell_heap {w w' : World} (h : w'.heap = w.heap) (a : Addr) : w'.cell? a = w.cell? a := by simp [World.cell?, h]

theorem scells_rel {P : Program} {h : H} (hh : RelH ρ h w) {x : V} {xv : Value} (hx : RelV ρ x xv) {es : Nat} (hes : es ≠ 0) {cs : List V} (hc : scells h x es = some cs) :
    ∃ ad cap ys, xv = .slice ad (snlen x) cap ∧ RelL ρ cs ys ∧ cs.length = snlen x * es ∧ ∀ w' : World, w'.heap = w.heap → (Builtin.firstCells es (snlen x) xv).run P w' = .ok ys.toArray w' := by
  unfold scells at hc
  split at hc
  · cases hc
    cases hx
    exact ⟨none, 0, [], rfl, ⟨rfl, by simp⟩, by simp [snlen], fun _ _ => rfl⟩
  · rename_i id ver off len es' cap
    split at hc
    · rename_i he
      subst he
      obtain ⟨hl, hg⟩ := rdN_rd hc
      cases hx with
      | sl _ _ _ _ _ _ ad rc h1 h2 h3 h4 h5 =>
        by_cases h0 : len = 0
        · subst h0
          have hcs : cs = [] := by simpa using hl
          subst hcs
          exact ⟨some ad, rc, [], rfl, ⟨rfl, by simp⟩, by simp [snlen], fun _ _ => by simp [Builtin.firstCells, snlen, loadCells, loadCellsFrom]⟩
        · have hp : RelV ρ (.ptr id ver off) (.pointer (some ad)) := .ptr _ _ _ _ h1 h2 fun g hv hg => (h5 g hv hg (by omega)).1
          have hpos : 0 < len * es' := Nat.mul_pos (by omega) (by omega)
          obtain ⟨ad', had, ys, hys, hcell⟩ := rds_of (fun e => by rw [e] at hl; simp at hl; omega) (fun j v hj => rd_rel hh hp (hg j v hj))
          cases had
          refine ⟨some ad, rc, ys, rfl, hys, hl, fun w' hw' => ?_⟩
          simp only [Builtin.firstCells, snlen]
          rw [← hl, hys.1]
          exact run_loadCells_list w' ad ys (fun j v hj => by rw [cell_heap hw']; exact hcell j v hj)
    · cases hc
  · rename_i es' xs
    split at hc
    · rename_i he
      subst he
      cases hc
      cases hx with
      | rs0 _ ad rc _ =>
        refine ⟨ad, rc, [], rfl, ⟨rfl, by simp⟩, by simp [snlen], fun _ _ => ?_⟩
        cases ad <;> simp [Builtin.firstCells, snlen, loadCells, loadCellsFrom]
      | rs _ _ b off c e fr rc h0 h1 h2 h3 h4 h5 =>
        have hwb := hh.ro b _ h1
        have hlen := flat_length h3
        by_cases hx0 : xs = []
        · subst hx0
          exact ⟨_, rc, [], rfl, ⟨rfl, by simp⟩, by simp [snlen], fun _ _ => by simp [Builtin.firstCells, snlen, loadCells, loadCellsFrom]⟩
        · have hxp : 0 < xs.length := List.length_pos_iff.2 hx0
          have hpos : 0 < xs.length * es' := Nat.mul_pos hxp (by omega)
          have key : ∀ (j : Nat) (v : V), (xs.flatMap V.cells)[j]? = some v → ∃ ad y, Value.pointer (some ⟨b, off, none⟩) = .pointer (some ad) ∧ w.cell? (ad.add j) = some y ∧ RelV ρ v y ∧ y.oneCell' = true := by
            intro k v hv
            obtain ⟨i, j, u, hk, hi, hj, hjl⟩ := flat_get hes h3 k v hv
            have hkl : k < xs.length * es' := by rw [← hlen]; exact (List.getElem?_eq_some_iff.1 hv).1
            have hlt : off + k < c.size := by omega
            refine ⟨_, c[off + k], rfl, ?_, h4 i u j v _ hi hj (by rw [← Array.getElem?_eq_getElem hlt]; congr 1; omega), h5 k _ hkl (Array.getElem?_eq_getElem hlt)⟩
            rw [add_none, cell_of hwb, Array.getElem?_eq_getElem hlt]
          obtain ⟨ad', had, ys, hys, hcell⟩ := rds_of (fun e => by rw [e] at hlen; simp at hlen; omega) key
          cases had
          refine ⟨_, rc, ys, rfl, hys, hlen, fun w' hw' => ?_⟩
          simp only [Builtin.firstCells, snlen]
          rw [← hlen, hys.1]
          exact run_loadCells_list w' _ ys (fun j v hj => by rw [cell_heap hw']; exact hcell j v hj)
    · cases hc
  · cases hc

theorem grow_le (need : Nat) : ∀ rounds c, c ≤ 2 * need + 768 → Builtin.growBy need rounds c ≤ 2 * need + 768
  | 0, c, h => h
  | n + 1, c, h => by
    simp only [Builtin.growBy]
    split
    · exact h
    · exact grow_le need n _ (by omega)

theorem next_le (need old : Nat) (h : old < need) : Builtin.nextslicecap need old ≤ 2 * need + 768 := by
  unfold Builtin.nextslicecap
  split
  · omega
  · split
    · omega
    · exact grow_le need 4 old (by omega)

theorem arr3 (xs ys : List Value) (z : Array Value) : xs.toArray ++ (ys.toArray ++ z) = (xs ++ ys).toArray ++ z := by
  apply Array.ext'
  simp

theorem append_fits {P : Program} {sT xT ty e : TypeId} {ud : TypeDesc} (hu : P.underlying sT = some (.slice e)) (hu' : P.underlying xT = some ud) (hnk : (∃ e', ud = .slice e') ∨ ud = .string) (hne : P.cellsOf e ≠ 0) {base : Option Addr} {sLen sCap n : Nat} {xv : Value} {ys : List Value}
    (hlen : (Builtin.lenOf xv).run P w = .ok n w) (hcells : (Builtin.firstCells (P.cellsOf e) n xv).run P w = .ok ys.toArray w) (hfit : sLen + n ≤ sCap) {w' : World}
    (hst : match base with
      | some ad => (storeCells (ad.add (sLen * P.cellsOf e)) ys 0).run P w = .ok () w'
      | none => w' = w) : (Builtin.append_ #[sT, xT] ty #[.slice base sLen sCap, xv]).run P w = .ok (.slice base (sLen + n) sCap) w' := by
  cases base with
  | none =>
    simp only at hst
    subst hst
    rcases hnk with ⟨e', rfl⟩ | rfl <;> simp [Builtin.append_, run_underlying hu, run_underlying hu', run_sizeOf_ne hne, hlen, hcells, hfit]
  | some ad =>
    simp only at hst
    rcases hnk with ⟨e', rfl⟩ | rfl <;> simp [Builtin.append_, run_underlying hu, run_underlying hu', run_sizeOf_ne hne, hlen, hcells, hfit, hst]

theorem append_grows {P : Program} {sT xT ty e : TypeId} {ud : TypeDesc} {inf : TypeInfo} {zv : Value} (hu : P.underlying sT = some (.slice e)) (hu' : P.underlying xT = some ud) (hnk : (∃ e', ud = .slice e') ∨ ud = .string) (hi : P.info? e = some inf) (hz : inf.zero = some zv) (hne : P.cellsOf e ≠ 0)
    {base : Option Addr} {sLen sCap n : Nat} {xv : Value} {olds ys : List Value}
    (hlen : (Builtin.lenOf xv).run P w = .ok n w) (hcells : ∀ w' : World, w'.heap = w.heap → (Builtin.firstCells (P.cellsOf e) n xv).run P w' = .ok ys.toArray w')
    (holds : ∀ w' : World, w'.heap = w.heap → (Builtin.firstCells (P.cellsOf e) sLen (.slice base sLen sCap)).run P w' = .ok olds.toArray w')
    (hgrow : sCap < sLen + n) (hbig : (sLen + n) * P.cellsOf e ≤ mostCells) (hbytes : P.bytesOf e ≤ P.cellsOf e * 64) :
    ∃ newCap w', sLen + n ≤ newCap ∧ (Builtin.append_ #[sT, xT] ty #[.slice base sLen sCap, xv]).run P w = .ok (.slice (some ⟨w.heap.size, 0, none⟩) (sLen + n) newCap) w' ∧
      Pushes w w' (.cells (olds.toArray ++ ys.toArray ++ Builtin.zeroCells zv.cells (newCap - (sLen + n))) e) := by
  have hm : mostCells = 4294967296 := rfl
  have hb : P.bytesOf e = inf.bytes := by simp [Program.bytesOf, hi]
  have hneed : sLen + n ≤ 4294967296 := by
    have : (sLen + n) * 1 ≤ (sLen + n) * P.cellsOf e := Nat.mul_le_mul_left _ (by omega)
    omega
  have hbig2 : Builtin.nextslicecap (sLen + n) sCap * inf.bytes ≤ 2 ^ 48 := by
    have h1 := next_le (sLen + n) sCap hgrow
    have h2 : Builtin.nextslicecap (sLen + n) sCap * inf.bytes ≤ (2 * (sLen + n) + 768) * (P.cellsOf e * 64) := Nat.mul_le_mul h1 (by omega)
    have h3 : (2 * (sLen + n) + 768) * (P.cellsOf e * 64) = 128 * ((sLen + n) * P.cellsOf e) + 49152 * P.cellsOf e := by
      rw [Nat.add_mul, Nat.mul_comm (P.cellsOf e) 64, ← Nat.mul_assoc, ← Nat.mul_assoc]
      have : 2 * (sLen + n) * 64 = 128 * (sLen + n) := by omega
      rw [this, Nat.mul_assoc]
    have h4 : P.cellsOf e ≤ (sLen + n) * P.cellsOf e := Nat.le_mul_of_pos_left _ (by omega)
    omega
  have hmax : ¬ (((sLen + n : Nat) : Int) > IntKind.i64.max) := by
    have : IntKind.i64.max = 9223372036854775807 := by decide
    omega
  refine ⟨(Question.appendCap (sLen + n) sCap e).cut (w.tape w.drawn (.appendCap (sLen + n) sCap e)), ?w', ?_, ?_, ?_⟩
  case w' => exact { w with drawn := w.drawn + 1, heap := w.heap.push (.cells (olds.toArray ++ ys.toArray ++ Builtin.zeroCells zv.cells ((Question.appendCap (sLen + n) sCap e).cut (w.tape w.drawn (.appendCap (sLen + n) sCap e)) - (sLen + n))) e) }
  · simp only [Question.cut]; omega
  · have hnf : ¬ sLen + n ≤ sCap := by omega
    have hmax0 : IntKind.i64.max = 9223372036854775807 := by decide
    have hmax' : ¬ 9223372036854775807 < ((sLen : Int) + (n : Int)) := by omega
    have ho2 := holds w.drew rfl
    have hc2 := hcells w.drew rfl
    rcases hnk with ⟨e', rfl⟩ | rfl
    all_goals
      simp [Builtin.append_, run_underlying hu, run_underlying hu', run_sizeOf_ne hne, hlen, hnf, run_typeInfo hi, hmax', hmax0, Question.forced, run_zeroValue hi hz]
      rw [if_neg (by omega), ho2]
      simp only [Result.andThen_ok]
      rw [hc2]
      simp only [Result.andThen_ok, newRow, Sem.run_bind, run_newObj, Sem.run_pure]
      rw [arr3]
      rfl
  · exact ⟨rfl, rfl, rfl⟩

end ops
end
end Go.L

namespace Go.L
noncomputable section

section ops
variable {R : Type} {E : Env} {o : Oper} {st : St} {K : St → Option R} {r : R} {ρ : Ren} {lo : Nat → Option Nat} {a : Act} {w : World}
  {next : Act → World → Prop} {Q : Exit → Act → World → Prop}

theorem lenOf_slice {P : Program} (ad : Option Addr) (n c : Nat) : (Builtin.lenOf (.slice ad n c)).run P w = .ok n w := rfl

theorem row_append {cs new : List V} {olds ys : List Value} (h1 : RelL ρ cs olds) (h2 : RelL ρ new ys) (z : Array Value) :
    ∀ (i : Nat) (x : V) (y : Value), (cs ++ new)[i]? = some x → (olds.toArray ++ ys.toArray ++ z)[i]? = some y → RelV ρ x y ∧ y.oneCell' = true := by
  intro i x y hx hy
  have hl1 := h1.1
  have hl2 := h2.1
  have hi : i < (cs ++ new).length := (List.getElem?_eq_some_iff.1 hx).1
  simp at hi
  rw [Array.getElem?_append_left (by simp; omega)] at hy
  by_cases hk : i < cs.length
  · rw [List.getElem?_append_left hk] at hx
    rw [Array.getElem?_append_left (by simp; omega)] at hy
    exact h1.2 i x y hx (by simpa using hy)
  · rw [List.getElem?_append_right (by omega)] at hx
    rw [Array.getElem?_append_right (by simp; omega)] at hy
    exact h2.2 _ x y hx (by simp at hy; rw [hl1]; exact hy)

theorem grown_new (hr : RelA E.n ρ lo st a w) {cs : List V} {c : Array Value} {e : TypeId} (hc : cs.length ≤ c.size)
    (hcc : ∀ (i : Nat) (x : V) (y : Value), cs[i]? = some x → c[i]? = some y → RelV ρ x y ∧ y.oneCell' = true) {w' : World} (hw : Pushes w w' (.cells c e)) {len es rc : Nat} (h3 : len ≤ rc) (h4 : rc * es ≤ c.size) :
    ∃ ρ', RelA E.n ρ' lo ⟨st.s, st.l, st.h ++ [.cells 0 cs]⟩ a w' ∧ Step ρ lo w ρ' lo w' ∧ RelV ρ' (.sl st.h.length 0 0 len es none) (.slice (some ⟨w.heap.size, 0, none⟩) len rc) := by
  have hn := hr.h.n
  have hro : RelO ρ ⟨w.heap.size, 0, c.size⟩ (.cells 0 cs) (.cells c e) :=
    ⟨by simp, hc, .inl rfl, fun i x y hx hy => hcc i x y hx (by simpa using hy)⟩
  obtain ⟨hh, hs⟩ := add_rel (o := .cells 0 cs) hr.h hw rfl hro
  obtain ⟨h1, h2⟩ := hr.lift hh hs
  refine ⟨_, h1, h2, .sl _ 0 0 len es none _ rc (by simp [Ren.add, hn]) (Nat.zero_le _) h3 (fun c h => by cases h) fun g hv hg hp => ?_⟩
  simp [Ren.add, hn] at hg
  subst hg
  exact ⟨rfl, by simpa using h4⟩

set_option maxHeartbeats 2000000 in
theorem happ_relN {sT xT ty e : TypeId} {ud : TypeDesc} (hu : E.P.underlying sT = some (.slice e)) (hu' : E.P.underlying xT = some ud) (hnk : (∃ e', ud = .slice e') ∨ ud = .string) {inf : TypeInfo} {zv : Value} (hi : E.P.info? e = some inf) (hz : inf.zero = some zv) (hzs : zv.cells.size = E.P.cellsOf e)
    (hne : E.P.cellsOf e ≠ 0) (hbytes : E.P.bytesOf e ≤ E.P.cellsOf e * 64) (hr : RelA E.n ρ lo st a w) {s v : V} {sv xv : Value} {h' : H} {cs : List V} {k : Nat} {ys : List Value} (hs : RelV ρ s sv)
    (hlx : (Builtin.lenOf xv).run E.P w = .ok k w) (hys : RelL ρ cs ys) (hcl : cs.length = k * E.P.cellsOf e) (hfc' : ∀ w' : World, w'.heap = w.heap → (Builtin.firstCells (E.P.cellsOf e) k xv).run E.P w' = .ok ys.toArray w')
    (hap : happ st.h s (E.P.cellsOf e) k cs = some (v, h')) :
    ∃ y w' ρ', (Builtin.append_ #[sT, xT] ty #[sv, xv]).run E.P w = .ok y w' ∧ RelA E.n ρ' lo ⟨st.s, st.l, h'⟩ a w' ∧ Step ρ lo w ρ' lo w' ∧ RelV ρ' v y := by
  have hfc := hfc' w rfl
  have hyl : ys.length = k * E.P.cellsOf e := by rw [← hys.1]; exact hcl
  have hzc : ∀ n, (Builtin.zeroCells zv.cells n).size = n * E.P.cellsOf e := fun n => by simp [Builtin.zeroCells, hzs]
  unfold happ at hap
  split at hap
  · rename_i hk
    split at hap
    · rename_i hsl
      cases hap
      have hys0 : ys = [] := by
        rw [hk] at hcl
        have := hys.1
        simp at hcl
        rw [hcl] at this
        simpa using this.symm
      subst hys0
      have fits : ∀ base sLen sCap, sv = .slice base sLen sCap → sLen ≤ sCap → ∃ y w' ρ', (Builtin.append_ #[sT, xT] ty #[sv, xv]).run E.P w = .ok y w' ∧ RelA E.n ρ' lo ⟨st.s, st.l, st.h⟩ a w' ∧ Step ρ lo w ρ' lo w' ∧ RelV ρ' s y := by
        intro base sLen sCap hsv hle
        subst hsv
        have := append_fits (P := E.P) (ty := ty) (sLen := sLen) (sCap := sCap) (base := base) hu hu' hnk hne hlx hfc (by omega) (w' := w) (by cases base <;> rfl)
        rw [hk, Nat.add_zero] at this
        exact ⟨_, w, ρ, this, hr, Step.refl _ _ _, hs⟩
      cases s <;> simp [isSl] at hsl
      · cases hs; exact fits _ _ _ rfl (Nat.le_refl _)
      · cases hs with
        | sl _ _ _ _ _ _ _ _ _ _ h3 _ _ => exact fits _ _ _ rfl h3
      · cases hs with
        | rs0 => exact fits _ _ _ rfl (Nat.zero_le _)
        | rs _ _ _ _ _ _ _ _ h0 => exact fits _ _ _ rfl h0
    · cases hap
  · rename_i hk
    cases s with
    | nils =>
      simp only at hap
      split at hap
      · rename_i hbig
        cases hap
        cases hs
        obtain ⟨newCap, w', h1, h2, h3⟩ := append_grows (P := E.P) (ty := ty) (base := none) (sLen := 0) (sCap := 0) (olds := []) hu hu' hnk hi hz hne hlx hfc' (fun w' _ => rfl) (by omega) (by simpa using hbig) hbytes
        simp only [Nat.zero_add] at h1 h2 h3
        obtain ⟨ρ', g1, g2, g3⟩ := grown_new (cs := cs) (es := E.P.cellsOf e) hr (c := ([] : List Value).toArray ++ ys.toArray ++ Builtin.zeroCells zv.cells (newCap - k)) (by simp; omega)
          (row_append (cs := []) ⟨rfl, by simp⟩ hys _) h3 h1 (by
            simp only [Array.size_append, hzc, List.size_toArray, List.length_nil, hyl]
            have : newCap * E.P.cellsOf e = k * E.P.cellsOf e + (newCap - k) * E.P.cellsOf e := by rw [← Nat.add_mul]; congr 1; omega
            omega)
        exact ⟨_, w', ρ', h2, g1, g2, g3⟩
      · cases hap
    | sl id ver off len es cap =>
      simp only at hap
      by_cases he : es = E.P.cellsOf e
      · subst he
        rw [if_pos rfl] at hap
        cases hid : st.h[id]? with
        | none => rw [hid] at hap; cases hap
        | some ob =>
          rw [hid] at hap
          cases ob with
          | cells v0 cs0 =>
            simp only at hap
            by_cases hv : v0 = ver
            · subst hv
              rw [if_pos rfl] at hap
              by_cases hle : off + len * E.P.cellsOf e ≤ cs0.length
              · rw [if_pos hle] at hap
                by_cases hbig : (len + k) * E.P.cellsOf e ≤ mostCells
                · rw [if_pos hbig] at hap
                  have hsl : scells st.h (.sl id v0 off len (E.P.cellsOf e) cap) (E.P.cellsOf e) = some ((cs0.drop off).take (len * E.P.cellsOf e)) := by
                    simp [scells, rdN, hid, hle]
                  obtain ⟨oad, ocap, olds, hsv, holds, holen, hof⟩ := scells_rel (P := E.P) hr.h hs hne hsl
                  subst hsv
                  simp only [snlen] at hof holen
                  have hsl0 := hs
                  obtain ⟨g, hg⟩ := hr.h.live id _ hid rfl
                  obtain ⟨o1, ob, ho1, hwb, hro, hver⟩ := hr.h.obj id g hg
                  rw [hid] at ho1
                  cases ho1
                  cases ob with
                  | cells c et fr =>
                    obtain ⟨q1, q2, q3, q4⟩ := hro
                    cases hs with
                    | sl _ _ _ _ _ _ ad _ k1 k2 k3 k4 k5 =>
                      have hmul : (len + k) * E.P.cellsOf e = len * E.P.cellsOf e + k * E.P.cellsOf e := Nat.add_mul _ _ _
                      -- the machine's row, written behind the slice
                      have inplace : len + k ≤ ocap → ∃ w', (Builtin.append_ #[sT, xT] ty #[.slice (some ad) len ocap, xv]).run E.P w = .ok (.slice (some ad) (len + k) ocap) w' ∧
                          ad = ⟨g.blk, g.base + off, none⟩ ∧ off + ocap * E.P.cellsOf e ≤ g.size ∧
                          w' = w.setRow g.blk (c.toList.take (g.base + off + len * E.P.cellsOf e) ++ ys ++ c.toList.drop (g.base + off + len * E.P.cellsOf e + ys.length)).toArray := by
                        intro hfit
                        obtain ⟨e1, e2⟩ := k5 g hver.symm hg (by omega)
                        have hm2 : (len + k) * E.P.cellsOf e ≤ ocap * E.P.cellsOf e := Nat.mul_le_mul_right _ hfit
                        have hst := run_storeCells_fr E.P g.blk (g.base + off + len * E.P.cellsOf e) et fr ys 0 c w hwb (q3.free _) (by omega) hys.one
                        simp only [Nat.add_zero] at hst
                        refine ⟨_, append_fits (P := E.P) (ty := ty) hu hu' hnk hne hlx hfc hfit (w' := w.setRow g.blk _) ?_, e1, e2, rfl⟩
                        show ((storeCells (ad.add (len * E.P.cellsOf e)) ys 0).run E.P w) = _
                        rw [e1, add_none]
                        exact hst
                      have grows : ocap < len + k → ∃ newCap w', len + k ≤ newCap ∧ (Builtin.append_ #[sT, xT] ty #[.slice (some ad) len ocap, xv]).run E.P w = .ok (.slice (some ⟨w.heap.size, 0, none⟩) (len + k) newCap) w' ∧
                          Pushes w w' (.cells (olds.toArray ++ ys.toArray ++ Builtin.zeroCells zv.cells (newCap - (len + k))) e) ∧
                          (olds.toArray ++ ys.toArray ++ Builtin.zeroCells zv.cells (newCap - (len + k))).size = newCap * E.P.cellsOf e := by
                        intro hgr
                        obtain ⟨newCap, w', h1, h2, h3⟩ := append_grows (P := E.P) (ty := ty) (base := some ad) (sLen := len) (sCap := ocap) (olds := olds) hu hu' hnk hi hz hne hlx hfc' hof hgr hbig hbytes
                        refine ⟨newCap, w', h1, h2, h3, ?_⟩
                        have hol : olds.length = len * E.P.cellsOf e := by rw [← holds.1]; exact holen
                        simp only [Array.size_append, hzc, List.size_toArray, hyl, hol]
                        have : newCap * E.P.cellsOf e = (len + k) * E.P.cellsOf e + (newCap - (len + k)) * E.P.cellsOf e := by rw [← Nat.add_mul]; congr 1; omega
                        omega
                      have hol : olds.length = len * E.P.cellsOf e := by rw [← holds.1]; exact holen
                      cases cap with
                      | none =>
                        simp only at hap
                        cases hap
                        by_cases hfit : len + k ≤ ocap
                        · obtain ⟨w', hrun, e1, e2, hw'⟩ := inplace hfit
                          have hm2 : (len + k) * E.P.cellsOf e ≤ ocap * E.P.cellsOf e := Nat.mul_le_mul_right _ hfit
                          have hnew : w'.heap[g.blk]? = some (.cells (c.toList.take (g.base + off + len * E.P.cellsOf e) ++ ys ++ c.toList.drop (g.base + off + len * E.P.cellsOf e + ys.length)).toArray et fr) := by
                            rw [hw']; exact heap_setRow hwb
                          have hoth : ∀ b, b < w.heap.size → b ≠ g.blk → w'.heap[b]? = w.heap[b]? := fun b _ hb => by rw [hw']; exact setRow_other w g.blk b _ hb
                          have hsz : w'.heap.size = w.heap.size := by rw [hw']; simp
                          obtain ⟨hh, hs'⟩ := move_rel (g' := ⟨g.blk, g.base + off, g.size - off⟩) (cs' := (cs0.drop off).take (len * E.P.cellsOf e) ++ cs) hr.h hg hid hnew
                            ⟨by simp; omega, by simp; omega, q3.same (by simp; omega) (Nat.le_succ _), fun i u z hu' hz' => by
                              dsimp only at hz'
                              rw [List.getElem?_toArray, spl_get _ _ _ _ (by simp; omega)] at hz'
                              by_cases hil : i < len * E.P.cellsOf e
                              · rw [List.getElem?_append_left (by simp; omega), List.getElem?_take, if_pos hil, List.getElem?_drop] at hu'
                                rw [if_pos (by omega)] at hz'
                                exact q4 (off + i) u z hu' (by rw [Array.getElem?_toList] at hz'; rw [← hz']; congr 1; omega)
                              · rw [List.getElem?_append_right (by simp; omega)] at hu'
                                have hin : i - len * E.P.cellsOf e < cs.length := by
                                  have := (List.getElem?_eq_some_iff.1 hu').1
                                  simp at this; omega
                                rw [if_neg (by omega), if_pos (by omega)] at hz'
                                refine hys.2 (i - len * E.P.cellsOf e) u z ?_ (by rw [← hz']; congr 1; omega)
                                rw [← hu']; congr 1; simp; omega⟩
                            (by rw [hw']; exact still_setRow hwb) (by omega) (.inl rfl) hoth
                          obtain ⟨g1, g2⟩ := hr.lift hh hs'
                          refine ⟨_, w', _, hrun, g1, g2, ?_⟩
                          refine .sl _ _ 0 _ _ none _ _ k1 (by simp [Ren.move, hver, O.ver]) hfit (fun c h => by cases h) fun g3 hv3 hg3 hp3 => ?_
                          simp [Ren.move] at hg3
                          subst hg3
                          exact ⟨by rw [e1]; rfl, by simp; omega⟩
                        · obtain ⟨newCap, w', h1, hrun, h3, h4⟩ := grows (by omega)
                          have hnew : w'.heap[w.heap.size]? = some (.cells (olds.toArray ++ ys.toArray ++ Builtin.zeroCells zv.cells (newCap - (len + k))) e) := by rw [h3.heap]; simp
                          have hm2 : (len + k) * E.P.cellsOf e ≤ newCap * E.P.cellsOf e := Nat.mul_le_mul_right _ h1
                          obtain ⟨hh, hs'⟩ := move_rel (g' := ⟨w.heap.size, 0, newCap * E.P.cellsOf e⟩) (cs' := (cs0.drop off).take (len * E.P.cellsOf e) ++ cs) hr.h hg hid hnew
                            ⟨by rw [h4]; simp, by simp; omega, .inl rfl, fun i u z hu' hz' => row_append holds hys _ i u z hu' (by simpa using hz')⟩
                            h3.still (by rw [h3.heap]; simp) (.inr (Nat.le_refl _)) (fun b hb _ => heap_push h3.heap hb)
                          obtain ⟨g1, g2⟩ := hr.lift hh hs'
                          refine ⟨_, w', _, hrun, g1, g2, ?_⟩
                          refine .sl _ _ 0 _ _ none _ _ k1 (by simp [Ren.move, hver, O.ver]) h1 (fun c h => by cases h) fun g3 hv3 hg3 hp3 => ?_
                          simp [Ren.move] at hg3
                          subst hg3
                          exact ⟨rfl, by simp⟩
                      | some c1 =>
                        have hrc : ocap = c1 := k4 c1 rfl
                        subst hrc
                        simp only at hap
                        by_cases hfit : len + k ≤ ocap
                        · rw [if_pos hfit] at hap
                          by_cases hin : off + (len + k) * E.P.cellsOf e ≤ cs0.length
                          · rw [if_pos hin] at hap
                            cases hap
                            obtain ⟨w', hrun, e1, e2, hw'⟩ := inplace hfit
                            have hnew : w'.heap[g.blk]? = some (.cells (c.toList.take (g.base + (off + len * E.P.cellsOf e)) ++ ys ++ c.toList.drop (g.base + (off + len * E.P.cellsOf e) + ys.length)).toArray et fr) := by
                              rw [hw', ← Nat.add_assoc]; exact heap_setRow hwb
                            have hoth : ∀ b, b ≠ g.blk → w'.heap[b]? = w.heap[b]? := fun b hb => by rw [hw']; exact setRow_other w g.blk b _ hb
                            have hsz : w'.heap.size = w.heap.size := by rw [hw']; simp
                            have hspl : off + len * E.P.cellsOf e + cs.length ≤ cs0.length := by omega
                            have hh := hr.h.set_cells (o' := .cells v0 (splice cs0 (off + len * E.P.cellsOf e) cs)) hg hid rfl hnew
                              ⟨by simp; omega, by rw [splice_length _ _ _ hspl]; exact q2, q3.same (by simp; omega) (Nat.le_refl _), row_spliced hys hspl (by omega) q4⟩ hoth
                            refine ⟨_, w', ρ, hrun, hr.of_heap hh hsz hg hoth, step_in hsz hg (by rw [hw']; exact still_setRow hwb) hoth, ?_⟩
                            exact .sl _ _ _ _ _ _ _ _ k1 k2 hfit k4 k5
                          · rw [if_neg hin] at hap; cases hap
                        · rw [if_neg hfit] at hap
                          cases hap
                          obtain ⟨newCap, w', h1, hrun, h3, h4⟩ := grows (by omega)
                          have hm2 : (len + k) * E.P.cellsOf e ≤ newCap * E.P.cellsOf e := Nat.mul_le_mul_right _ h1
                          obtain ⟨ρ', g1, g2, g3⟩ := grown_new (cs := (cs0.drop off).take (len * E.P.cellsOf e) ++ cs) (es := E.P.cellsOf e) hr (by rw [h4]; simp; omega)
                            (row_append holds hys _) h3 h1 (by rw [h4]; omega)
                          exact ⟨_, w', ρ', hrun, g1, g2, g3⟩
                  | _ => exact hro.elim
                · rw [if_neg hbig] at hap; cases hap
              · rw [if_neg hle] at hap; cases hap
            · rw [if_neg hv] at hap; cases hap
          | map _ _ _ => cases hap
          | iter _ _ _ _ => cases hap
          | dead => cases hap
          | rsv => cases hap
      · rw [if_neg he] at hap; cases hap
    | _ => cases hap

theorem happ_rel {sT xT ty e e' : TypeId} (hu : E.P.underlying sT = some (.slice e)) (hu' : E.P.underlying xT = some (.slice e')) {inf : TypeInfo} {zv : Value} (hi : E.P.info? e = some inf) (hz : inf.zero = some zv) (hzs : zv.cells.size = E.P.cellsOf e)
    (hne : E.P.cellsOf e ≠ 0) (hbytes : E.P.bytesOf e ≤ E.P.cellsOf e * 64) (hr : RelA E.n ρ lo st a w) {s x v : V} {sv xv : Value} {h' : H} {cs : List V} (hs : RelV ρ s sv) (hx : RelV ρ x xv)
    (hsc : scells st.h x (E.P.cellsOf e) = some cs) (hap : happ st.h s (E.P.cellsOf e) (snlen x) cs = some (v, h')) :
    ∃ y w' ρ', (Builtin.append_ #[sT, xT] ty #[sv, xv]).run E.P w = .ok y w' ∧ RelA E.n ρ' lo ⟨st.s, st.l, h'⟩ a w' ∧ Step ρ lo w ρ' lo w' ∧ RelV ρ' v y := by
  obtain ⟨xad, xcap, ys, rfl, hys, hcl, hfc'⟩ := scells_rel (P := E.P) hr.h hx hne hsc
  exact happ_relN hu hu' (.inl ⟨_, rfl⟩) hi hz hzs hne hbytes hr hs (lenOf_slice xad (snlen x) xcap) hys hcl (fun w' h => hfc' w' h) hap

theorem bytesV_rel (ρ : Ren) (t : ByteArray) : RelL ρ (bytesV t) (t.data.toList.map fun b => Value.int .u8 b.toNat) := by
  refine ⟨by simp [bytesV], fun i v y hv hy => ?_⟩
  simp only [bytesV, List.getElem?_map, Option.map_eq_some_iff] at hv hy
  obtain ⟨b, hb, rfl⟩ := hv
  obtain ⟨b', hb', rfl⟩ := hy
  rw [hb] at hb'; cases hb'
  exact ⟨.int _ _, rfl⟩

theorem happ_str {sT xT ty e : TypeId} (hu : E.P.underlying sT = some (.slice e)) (hu' : E.P.underlying xT = some .string) {inf : TypeInfo} {zv : Value} (hi : E.P.info? e = some inf) (hz : inf.zero = some zv) (hzs : zv.cells.size = E.P.cellsOf e)
    (h1 : E.P.cellsOf e = 1) (hbytes : E.P.bytesOf e ≤ 64) (hr : RelA E.n ρ lo st a w) {s v : V} {sv : Value} {h' : H} {t : ByteArray} (hs : RelV ρ s sv)
    (hap : happ st.h s 1 t.size (bytesV t) = some (v, h')) :
    ∃ y w' ρ', (Builtin.append_ #[sT, xT] ty #[sv, .string t]).run E.P w = .ok y w' ∧ RelA E.n ρ' lo ⟨st.s, st.l, h'⟩ a w' ∧ Step ρ lo w ρ' lo w' ∧ RelV ρ' v y := by
  refine happ_relN (k := t.size) (cs := bytesV t) hu hu' (.inr rfl) hi hz hzs (by omega) (by omega) hr hs rfl (bytesV_rel ρ t) (by rw [h1]; simp [bytesV]) (fun w' _ => ?_) (by rw [h1]; exact hap)
  have e : t.extract 0 t.size = t := by simp
  simp only [Builtin.firstCells, e]
  show Result.ok _ _ = _
  congr 1
  apply Array.ext'
  simp

end ops
end
end Go.L

namespace Go.L
noncomputable section

section ops
variable {R : Type} {E : Env} {o : Oper} {st : St} {K : St → Option R} {r : R} {ρ : Ren} {lo : Nat → Option Nat} {a : Act} {w : World}
  {next : Act → World → Prop} {Q : Exit → Act → World → Prop}

theorem zeroVal_inv {P : Program} {t : TypeId} {z : V} (h : zeroVal P t = some z) : ∃ i v, P.info? t = some i ∧ i.zero = some v ∧ cstA v = some z := by
  unfold zeroVal at h
  simp only [Option.bind_eq_some_iff] at h
  obtain ⟨v, ⟨i, hi, hz⟩, hc⟩ := h
  exact ⟨i, v, hi, hz, hc⟩

theorem tup2 {u v : V} {x y : Value} (h1 : RelV ρ u x) (h2 : RelV ρ v y) : RelV ρ (.tup [u, v]) (.tuple #[x, y]) :=
  .tup _ _ rfl fun k v' x' h3 h4 => by
    match k, h3, h4 with
    | 0, h3, h4 => simp at h3 h4; subst h3; subst h4; exact h1
    | 1, h3, h4 => simp at h3 h4; subst h3; subst h4; exact h2
    | k + 2, h3, h4 => simp at h3

theorem tup3 {u v z : V} {x y q : Value} (h1 : RelV ρ u x) (h2 : RelV ρ v y) (h5 : RelV ρ z q) : RelV ρ (.tup [u, v, z]) (.tuple #[x, y, q]) :=
  .tup _ _ rfl fun k v' x' h3 h4 => by
    match k, h3, h4 with
    | 0, h3, h4 => simp at h3 h4; subst h3; subst h4; exact h1
    | 1, h3, h4 => simp at h3 h4; subst h3; subst h4; exact h2
    | 2, h3, h4 => simp at h3 h4; subst h3; subst h4; exact h5
    | k + 3, h3, h4 => simp at h3

theorem born_at {ms : Array MapEntry} {bs : List Nat} (h : bs = ms.toList.map (·.born)) {j b : Nat} {m : MapEntry} (hb : bs[j]? = some b) (hm : ms[j]? = some m) : b = m.born := by
  subst h
  rw [List.getElem?_map, Array.getElem?_toList, hm] at hb
  exact (Option.some.inj hb).symm

theorem mapEntry_main {t kt et : TypeId} {x i : Operand} (ho : o.op = .mapEntry t x i) (hu : E.P.underlying t = some (.map kt et)) {m key z : V} {q : V × Int × H} (hok : keyOk E.P kt key = true)
    (hmv : RelV ρ m (a.eval x)) (hkv : RelV ρ key (a.eval i)) (hz : zeroVal E.P et = some z) (hset : hentry st.h m key z = some q) (he : fin E o st K (.v (.tup [q.1, .int .i64 q.2.1])) st.l q.2.2 = some r)
    (hr : RelA E.n ρ lo st a w) (hn : Owes E o st ρ lo w K r next) : o.wp E.P a w next Q := by
  obtain ⟨inf, zv, hi, hzv, hzc⟩ := zeroVal_inv hz
  unfold hentry at hset
  split at hset
  case h_2 => cases hset
  rename_i id
  split at hset
  case h_2 => cases hset
  rename_i c bs es hid
  simp only [Option.bind_eq_some_iff] at hset
  obtain ⟨qi, hqi, hset⟩ := hset
  rcases hmap_rel hr.h hmv (show hmap st.h (.map id) = some es by simp [hmap, hid]) with ⟨hy, h1, _⟩ | ⟨id', g, ms, c', bs', hy, hmi, hg, hid', hwb, hbs, hrm⟩
  · cases h1
  · cases hmi
    rw [hid] at hid'; cases hid'
    have hgo := run_getObj (P := E.P) hwb (by simp)
    have hso := fun ob' => run_setObj (P := E.P) (ob' := ob') hwb (by simp)
    rcases midx_run hok hkv hrm hqi w with ⟨rfl, hf⟩ | ⟨j, m', rfl, hj, hbits, hf⟩
    · cases hset
      obtain ⟨h1, h2⟩ := map_set (c' := c + 1) (bs' := bs ++ [c]) hr hg hid (ms' := ms.push { key := a.eval i, val := zv, born := c }) (by simp [hbs]) (hrm.push (e := { key := a.eval i, val := zv, born := c }) hkv (cstA_rel ρ hzc))
      refine upon_of (v := .tuple #[zv, .int .i64 c]) ?_ (fin_sound he h1 (x := .v _) (tup2 (cstA_rel ρ hzc) (.int _ _)) h2 hn)
      unfold execOp
      simp [ho, Instr.mapEntry, run_underlying hu, hy, hgo, checkKey_run hok hkv, hf, hso, run_zeroValue hi hzv, goInt]
    · simp only at hset
      split at hset
      case h_2 => cases hset
      rename_i e b he1 hb1
      cases hset
      have hmj : ms[j]? = some m' := by simpa using hj
      have hbm := born_at hbs hb1 hmj
      subst hbm
      have hv := (hrm.2 j e m' he1 hj).2
      obtain ⟨h1, h2⟩ := map_set (c' := c) (bs' := bs) hr hg hid (ms' := ms.modify j fun e => { e with key := a.eval i })
        (hbs.trans (born_modify ms j (fun e => { e with key := a.eval i }) (fun _ => rfl)).symm) (hrm.setAt hmj (f := fun e => { e with key := a.eval i }) hkv hv)
      refine upon_of (v := .tuple #[m'.val, .int .i64 m'.born]) ?_ (fin_sound he h1 (x := .v _) (tup2 hv (.int _ _)) h2 hn)
      unfold execOp
      simp [ho, Instr.mapEntry, run_underlying hu, hy, hgo, checkKey_run hok hkv, hf, hmj, keyStays hbits, hso, goInt]

theorem mapEntry_sound {t : TypeId} {x i : Operand} (ho : o.op = .mapEntry t x i) (he : evOp E o st K = some r) (hr : RelA E.n ρ lo st a w) (hn : Owes E o st ρ lo w K r next) :
    o.wp E.P a w next Q := by
  unfold evOp at he
  simp only [ho] at he
  split at he
  case h_2 => cases he
  rename_i m key kt et hm hkey hu
  split at he
  case isFalse => cases he
  rename_i hok
  split at he
  case h_3 => cases he
  all_goals
    simp only [Option.bind_eq_some_iff] at he
    obtain ⟨z, hz, q, hq, he⟩ := he
    obtain ⟨v, hv, he⟩ := tyDest1_inv he
    cases hv
    exact mapEntry_main ho hu hok (opnd_v hr hm) (opnd_v hr hkey) hz hq he hr hn

theorem bidx_run {n : Int} : ∀ {ms : List MapEntry} {j : Nat}, bidx n (ms.map (·.born)) = some j → ms.findIdx? (fun e => (e.born : Int) == n) = some j ∧ j < ms.length
  | [], j, h => by simp [bidx] at h
  | m :: ms, j, h => by
    simp only [List.map_cons, bidx] at h
    split at h
    · rename_i hb
      cases h
      simp [List.findIdx?_cons, hb]
    · rename_i hb
      simp only [Option.bind_eq_some_iff] at h
      obtain ⟨i, hi, h⟩ := h
      cases h
      obtain ⟨h1, h2⟩ := bidx_run hi
      refine ⟨?_, by simpa using h2⟩
      rw [List.findIdx?_cons, h1]
      simp [hb]

theorem findIdx_list {α : Type} (p : α → Bool) (xs : Array α) : xs.findIdx? p = xs.toList.findIdx? p := by
  cases xs with | mk l => simp

theorem entryStore_sound {t : TypeId} {x s v : Operand} (ho : o.op = .entryStore t x s v) (he : evOp E o st K = some r) (hr : RelA E.n ρ lo st a w) (hn : Owes E o st ρ lo w K r next) :
    o.wp E.P a w next Q := by
  unfold evOp at he
  simp only [ho] at he
  split at he
  case h_2 => cases he
  rename_i m k n xv hm hs hx
  simp only [Option.bind_eq_some_iff] at he
  obtain ⟨h', hset, he⟩ := he
  have hmv := opnd_v hr hm
  have hxv := opnd_v hr hx
  have hsv := opnd_v hr hs
  generalize hsy : a.eval s = sy at hsv
  cases hsv
  unfold hestore at hset
  split at hset
  case h_2 => cases hset
  rename_i id
  split at hset
  case h_2 => cases hset
  rename_i c bs es hid
  simp only [Option.bind_eq_some_iff] at hset
  obtain ⟨j, hj, hset⟩ := hset
  split at hset
  case h_2 => cases hset
  rename_i e he1
  cases hset
  rcases hmap_rel hr.h hmv (show hmap st.h (.map id) = some es by simp [hmap, hid]) with ⟨hy, h1, _⟩ | ⟨id', g, ms, c', bs', hy, hmi, hg, hid', hwb, hbs, hrm⟩
  · cases h1
  · cases hmi
    rw [hid] at hid'; cases hid'
    have hgo := run_getObj (P := E.P) hwb (by simp)
    have hso := fun ob' => run_setObj (P := E.P) (ob' := ob') hwb (by simp)
    rw [hbs] at hj
    obtain ⟨hf, hlt⟩ := bidx_run hj
    have hf' : ms.findIdx? (fun e => (e.born : Int) == n) = some j := by
      rw [findIdx_list]
      exact hf
    have hmj : ms[j]? = some (ms[j]'(by simpa using hlt)) := Array.getElem?_eq_getElem _
    have hkr := (hrm.2 j e _ he1 (by rw [Array.getElem?_toList]; exact hmj)).1
    obtain ⟨h1, h2⟩ := map_set (c' := c) (bs' := bs) hr hg hid (ms' := ms.modify j fun e => { e with val := a.eval v })
      (hbs.trans (born_modify ms j (fun e => { e with val := a.eval v }) (fun _ => rfl)).symm) (hrm.setAt hmj (f := fun e => { e with val := a.eval v }) hkr hxv)
    refine upon_skip ?_ (fin_sound he h1 (v := undef) trivial h2 hn)
    unfold execOp
    simp [ho, Instr.entryStore, hy, hsy, hgo, hf', hso, Go.asInt, Go.asIntOf]

theorem range_sound {t : TypeId} {x : Operand} (ho : o.op = .range t x) (he : evOp E o st K = some r) (hr : RelA E.n ρ lo st a w) (hn : Owes E o st ρ lo w K r next) :
    o.wp E.P a w next Q := by
  unfold evOp at he
  simp only [ho] at he
  split at he
  case h_2 => cases he
  rename_i m kt et hm hu
  simp only [Option.bind_eq_some_iff] at he
  obtain ⟨ob, hob, he⟩ := he
  have hmv := opnd_v hr hm
  have hn' := hr.h.n
  have main : ∃ mo since last, (Instr.range t (a.eval x)).run E.P w = .ok (.pointer (some ⟨w.heap.size, 0, none⟩)) (pushed w (.mapIter mo since #[] last)) ∧ RelO ρ ⟨w.heap.size, 0, 0⟩ ob (.mapIter mo since #[] last) ∧ ob.ver = 0 := by
    unfold hrange at hob
    split at hob
    · cases hob
      generalize hxy : a.eval x = xy at hmv
      cases hmv
      refine ⟨none, 0, 0, ?_, ⟨rfl, .nilm, rfl, rfl, rfl⟩, rfl⟩
      simp [Instr.range, run_underlying hu, pushed]
    · rename_i id
      split at hob
      case h_2 => cases hob
      rename_i c bs es hid
      cases hob
      rcases hmap_rel hr.h hmv (show hmap st.h (.map id) = some es by simp [hmap, hid]) with ⟨hy, h1, _⟩ | ⟨id', g, ms, c', bs', hy, hmi, hg, hid', hwb, hbs, hrm⟩
      · cases h1
      · rw [hy] at hmv
        cases hmi
        rw [hid] at hid'; cases hid'
        have hgo := run_getObj (P := E.P) hwb (by simp)
        refine ⟨some g.blk, c, c, ?_, ⟨rfl, hmv, rfl, rfl, rfl⟩, rfl⟩
        simp [Instr.range, run_underlying hu, hy, hgo, pushed]
    · cases hob
  obtain ⟨mo, since, last, hrun, hro, hver⟩ := main
  obtain ⟨hh, hs⟩ := add_rel (o := ob) hr.h (w' := pushed w (.mapIter mo since #[] last)) ⟨rfl, rfl, rfl⟩ hver hro
  obtain ⟨h1, h2⟩ := hr.lift hh hs
  refine upon_of (v := .pointer (some ⟨w.heap.size, 0, none⟩)) ?_ (fin_sound he h1 (x := .v _) ?_ h2 hn)
  · unfold execOp
    simp [ho, hrun]
  · refine .ptr _ _ _ _ (by simp [Ren.add, hn']) (Nat.zero_le _) fun g hv hg => ?_
    simp [Ren.add, hn'] at hg
    subst hg
    rfl

inductive Pairs {α β : Type} (R : α → β → Prop) : List α → List β → Prop where
  | nil : Pairs R [] []
  | cons {a b l l'} : R a b → Pairs R l l' → Pairs R (a :: l) (b :: l')

theorem Pairs.filter {α β : Type} {R : α → β → Prop} {p : α → Bool} {q : β → Bool} (h : ∀ a b, R a b → p a = q b) : ∀ {l : List α} {l' : List β}, Pairs R l l' → Pairs R (l.filter p) (l'.filter q)
  | _, _, .nil => .nil
  | _, _, .cons (a := a) (b := b) h1 h2 => by
    rw [List.filter_cons, List.filter_cons, h a b h1]
    split
    · exact .cons h1 (Pairs.filter h h2)
    · exact Pairs.filter h h2

theorem Pairs.append {α β : Type} {R : α → β → Prop} : ∀ {l : List α} {l' : List β} {k : List α} {k' : List β}, Pairs R l l' → Pairs R k k' → Pairs R (l ++ k) (l' ++ k')
  | _, _, _, _, .nil, h => h
  | _, _, _, _, .cons h1 h2, h => .cons h1 (Pairs.append h2 h)

theorem Pairs.map {α β γ δ : Type} {R : α → β → Prop} {S : γ → δ → Prop} {f : α → γ} {g : β → δ} (h : ∀ a b, R a b → S (f a) (g b)) : ∀ {l : List α} {l' : List β}, Pairs R l l' → Pairs S (l.map f) (l'.map g)
  | _, _, .nil => .nil
  | _, _, .cons h1 h2 => .cons (h _ _ h1) (Pairs.map h h2)

theorem Pairs.at {α β : Type} {R : α → β → Prop} : ∀ {l : List α} {l' : List β}, Pairs R l l' → ∀ (i : Nat) (b : β), l'[i]? = some b → ∃ a, l[i]? = some a ∧ R a b
  | _, _, .nil, i, b, h => by simp at h
  | _, _, .cons h1 h2, 0, b, h => by simp at h; subst h; exact ⟨_, rfl, h1⟩
  | _, _, .cons h1 h2, i + 1, b, h => by
    obtain ⟨a, k1, k2⟩ := Pairs.at h2 i b (by simpa using h)
    exact ⟨a, by simpa using k1, k2⟩

theorem Pairs.emp {α β : Type} {R : α → β → Prop} : ∀ {l : List α} {l' : List β}, Pairs R l l' → isEmp l = l'.isEmpty
  | _, _, .nil => rfl
  | _, _, .cons _ _ => rfl

def EntryRel (ρ : Ren) (e : Nat × V × V) (m : MapEntry) : Prop := e.1 = m.born ∧ RelV ρ e.2.1 m.key ∧ RelV ρ e.2.2 m.val

theorem unseen_pairs (seen : List Nat) : ∀ {es : List (V × V)} {ms : List MapEntry}, RelM ρ es ms → Pairs (EntryRel ρ) (unseen seen (ms.map (·.born)) es) (ms.filter fun e => !seen.contains e.born)
  | [], [], _ => .nil
  | [], _ :: _, hm => by have := hm.1; simp at this
  | _ :: _, [], hm => by have := hm.1; simp at this
  | e :: es, m :: ms, hm => by
    obtain ⟨h1, h2, h3⟩ := hm.tail
    have ih := unseen_pairs seen h3
    rw [List.map_cons, unseen, List.filter_cons]
    split
    · rename_i hs
      rw [if_neg (by rw [hs]; simp)]
      exact ih
    · rename_i hs
      rw [if_pos (by rw [hs]; rfl)]
      exact .cons ⟨rfl, h1, h2⟩ ih

def OptRel (ρ : Ren) (e : Option (Nat × V × V)) (m : Option MapEntry) : Prop :=
  match e, m with
  | none, none => True
  | some e, some m => EntryRel ρ e m
  | _, _ => False

theorem blt_dec (a b : Nat) : Nat.blt a b = decide (a < b) := by
  rw [Bool.eq_iff_iff]
  simp [Nat.blt_eq]

theorem meets_pairs (since : Nat) {l : List (Nat × V × V)} {ms : List MapEntry} (h : Pairs (EntryRel ρ) l ms) :
    Pairs (OptRel ρ) (meets since l) ((if (ms.filter (fun e => decide (e.born < since))).isEmpty then [none] else []) ++ (ms.filter (fun e => decide (e.born < since)) ++ ms.filter (fun e => decide (since ≤ e.born))).map some) := by
  have h1 : Pairs (EntryRel ρ) (olds since l) (ms.filter (fun e => decide (e.born < since))) := h.filter fun a b hab => by
    rw [hab.1, blt_dec]
  have h2 : Pairs (EntryRel ρ) (news since l) (ms.filter (fun e => decide (since ≤ e.born))) := h.filter fun a b hab => by
    rw [hab.1, blt_dec]
    by_cases hc : since ≤ b.born
    · simp [hc, Nat.not_lt.2 hc]
    · simp [hc, Nat.lt_of_not_le hc]
  unfold meets
  refine Pairs.append ?_ (Pairs.map (f := some) (g := some) (S := OptRel ρ) (fun a b hab => hab) (h1.append h2))
  rw [h1.emp]
  cases (ms.filter (fun e => decide (e.born < since))).isEmpty
  · exact .nil
  · exact .cons trivial .nil

theorem run_chooseNext {P : Program} {α : Type} {n : Nat} (hn : 0 < n) (k : Nat → Sem α) (w : World) : ∃ i w', i < n ∧ w'.heap = w.heap ∧ w'.os = w.os ∧ w'.output = w.output ∧ (choose (.mapNext n) >>= k).run P w = (k i).run P w' := by
  have e : (choose (.mapNext n) >>= k).run P w = if (Question.mapNext n).forced = true then (k 0).run P w else (k ((Question.mapNext n).cut (w.tape w.drawn (.mapNext n)))).run P w.drew := by simp
  by_cases h : (Question.mapNext n).forced = true
  · exact ⟨0, w, hn, rfl, rfl, rfl, by rw [e, if_pos h]⟩
  · exact ⟨_, w.drew, Nat.mod_lt _ hn, rfl, rfl, rfl, by rw [e, if_neg h]; rfl⟩

theorem iter_inv {h : H} (hh : RelH ρ h w) {id : Nat} {y : Value} (hx : RelV ρ (.ptr id 0 0) y) {m : V} {since last : Nat} {seen : List Nat} (hid : h[id]? = some (.iter m since seen last)) :
    ∃ g mo seen', y = .pointer (some ⟨g.blk, 0, none⟩) ∧ ρ.wr id = some g ∧ w.heap[g.blk]? = some (.mapIter mo since seen' last) ∧ g.base = 0 ∧ RelV ρ m (.map mo) ∧ seen'.toList = seen := by
  obtain ⟨g, hg⟩ := hh.live id _ hid rfl
  obtain ⟨o1, ob, h1, h2, h3, h4⟩ := hh.obj id g hg
  rw [hid] at h1; cases h1
  cases hx with
  | ptr _ _ _ ad k1 k2 k3 =>
    have e := k3 g h4.symm hg
    cases ob with
    | mapIter mo since' seen' last' =>
      obtain ⟨e1, e2, e3, e4, e5⟩ := h3
      subst e3; subst e5
      refine ⟨g, mo, seen', ?_, hg, h2, e1, e2, e4⟩
      rw [e, e1]
    | _ => exact h3.elim

def nextV (x : Bool × V × V × H) : V :=
  match x.1 with
  | true => .tup [.bool true, x.2.1, x.2.2.1]
  | false => .tup [.bool false]

theorem find_of_idx {b : Nat} : ∀ {ms : Array MapEntry} {j : Nat}, ms.toList.findIdx? (fun e => (e.born : Int) == (b : Int)) = some j → ∀ (hlt : j < ms.toList.length), ms.find? (fun e => e.born == b) = some ms.toList[j] := by
  intro ms j h hlt
  rw [← Array.find?_toList]
  generalize ms.toList = l at h hlt
  induction l generalizing j with
  | nil => simp at h
  | cons m l ih =>
    rw [List.findIdx?_cons] at h
    split at h
    · rename_i hb
      cases h
      have hb : m.born = b := by have := eq_of_beq hb; omega
      rw [List.find?_cons, hb, beq_self_eq_true]
      rfl
    · rename_i hb
      have hb : (m.born == b) = false := by
        cases hh : m.born == b with
        | false => rfl
        | true =>
          have := eq_of_beq hh
          subst this
          exact absurd (by simp) hb
      obtain ⟨i, hi, rfl⟩ := Option.map_eq_some_iff.1 h
      rw [List.find?_cons, hb]
      exact ih hi (by simpa using hlt)

theorem next_run {it : Operand} {ty : TypeId} (hr : RelA E.n ρ lo st a w) {p : V} (hp : RelV ρ p (a.eval it)) {l : List (Bool × V × V × H)} (hl : hnexts st.h p = some l) :
    ∃ x ∈ l, ∃ y w', (Instr.next (a.eval it) false ty).run E.P w = .ok y w' ∧ RelA E.n ρ lo ⟨st.s, st.l, x.2.2.2⟩ a w' ∧ Step ρ lo w ρ lo w' ∧ RelV ρ (nextV x) y := by
  have overR : RelV ρ (.tup [.bool false]) (.tuple #[.bool false]) := .tup _ _ rfl fun k v' x' h3 h4 => by
    match k, h3, h4 with
    | 0, h3, h4 => simp at h3 h4; subst h3; subst h4; exact .bool _
    | k + 1, h3, h4 => simp at h3
  unfold hnexts at hl
  split at hl
  case h_2 => cases hl
  rename_i id
  split at hl
  case h_2 => cases hl
  rename_i m since seen last hid
  obtain ⟨g, mo, seen', hy, hg, hwb, hb0, hm, hseen⟩ := iter_inv hr.h hp hid
  have hgo := run_getObj (P := E.P) hwb (by simp)
  split at hl
  · cases hl
    cases hm
    refine ⟨_, List.mem_singleton.2 rfl, .tuple #[.bool false], w, ?_, hr, Step.refl _ _ _, overR⟩
    simp [Instr.next, hy, hgo]
  · rename_i mid
    split at hl
    case h_2 => cases hl
    rename_i c bs es hmid
    split at hl
    case h_2 => cases hl
    rename_i hguard
    cases hl
    rcases hmap_rel hr.h hm (show hmap st.h (.map mid) = some es by simp [hmap, hmid]) with ⟨_, h1, _⟩ | ⟨id', g2, ms, c', bs', hmo, hmi, hg2, hid', hwb2, hbs, hrm⟩
    · cases h1
    · cases hmi
      rw [hmid] at hid'; cases hid'
      cases hmo
      have hgo2 := run_getObj (P := E.P) hwb2 (by simp)
      have hpairs := meets_pairs (ρ := ρ) since (unseen_pairs seen hrm)
      rw [← hbs] at hpairs
      generalize hC : ((if ((ms.toList.filter fun e => !seen.contains e.born).filter (fun e => decide (e.born < since))).isEmpty then [none] else []) ++
        ((ms.toList.filter fun e => !seen.contains e.born).filter (fun e => decide (e.born < since)) ++ (ms.toList.filter fun e => !seen.contains e.born).filter (fun e => decide (since ≤ e.born))).map some : List (Option MapEntry)) = C at hpairs
      have hCpos : 0 < C.length := by
        rw [← hC]
        cases hh : ((ms.toList.filter fun e => !seen.contains e.born).filter (fun e => decide (e.born < since))) with
        | nil => simp
        | cons x l => simp
      have hng : (!seen'.isEmpty && !ms.isEmpty && ms.all (fun e => decide (e.born ≥ last))) = false := by
        have e1 : seen'.isEmpty = isEmp seen := by
          rw [← hseen]; cases seen' with | mk l => cases l <;> rfl
        have e2 : ms.isEmpty = isEmp es := by
          have := hrm.1
          cases ms with
          | mk l => cases l <;> cases es <;> simp at this <;> rfl
        have e3 : ms.all (fun e => decide (e.born ≥ last)) = bs.all fun b => Nat.ble last b := by
          rw [hbs, ← Array.all_toList, List.all_map]
          congr 1
          funext e
          by_cases hc : last ≤ e.born
          · simp [hc, Nat.ble_eq]
          · simp only [Function.comp, ge_iff_le, hc, decide_false]
            cases hb : Nat.ble last e.born with
            | false => rfl
            | true => exact absurd (Nat.le_of_ble_eq_true hb) hc
        rw [e1, e2, e3]
        revert hguard
        cases isEmp seen <;> cases isEmp es <;> cases (bs.all fun b => Nat.ble last b) <;> simp
      have hcand : ∀ (k : Nat → Sem Value), (Instr.next (a.eval it) false ty).run E.P w = (choose (.mapNext C.length) >>= fun i => match C[i]? with
          | some (some e) => do
            setObj g.blk (.mapIter (some g2.blk) since (seen'.push e.born) c)
            pure (Value.tuple #[.bool true, e.key, e.val])
          | some none => pure (Value.tuple #[.bool false])
          | none => stuck "Next: no such candidate").run E.P w := by
        intro _
        have harr : ((if ((ms.filter fun e => !seen'.contains e.born).filter (fun e => decide (e.born < since))).isEmpty then #[none] else #[]) ++
            ((ms.filter fun e => !seen'.contains e.born).filter (fun e => decide (e.born < since)) ++ (ms.filter fun e => !seen'.contains e.born).filter (fun e => decide (e.born ≥ since))).map some : Array (Option MapEntry)) = C.toArray := by
          rw [← hC]
          apply Array.toList_inj.1
          have es : ∀ b, seen'.contains b = seen.contains b := fun b => by rw [← hseen]; simp
          simp only [es, Array.toList_append, Array.toList_map, Array.toList_filter, ge_iff_le]
          congr 1
          have : ∀ q : Array MapEntry, q.isEmpty = q.toList.isEmpty := fun q => by cases q with | mk l => cases l <;> rfl
          rw [this, Array.toList_filter, Array.toList_filter]
          split <;> rfl
        unfold Instr.next
        simp only [hy, Sem.run_bind, hgo, Result.andThen_ok, hgo2, hng, harr]
        simp
        rfl
      obtain ⟨i, w', hi, hw1, hw2, hw3, hrun⟩ := run_chooseNext (P := E.P) hCpos (fun i => match C[i]? with
          | some (some e) => do
            setObj g.blk (.mapIter (some g2.blk) since (seen'.push e.born) c)
            pure (Value.tuple #[.bool true, e.key, e.val])
          | some none => pure (Value.tuple #[.bool false])
          | none => stuck "Next: no such candidate") w
      rw [← hcand (fun _ => pure default)] at hrun
      have hCi := List.getElem?_eq_getElem hi
      obtain ⟨q, hq, hrel⟩ := hpairs.at i _ hCi
      have hr' := hr.of_same hw1 hw2 hw3
      have hs' : Step ρ lo w ρ lo w' := Step.of_same hw1 hw2 hw3
      cases hCe : C[i] with
      | none =>
        rw [hCe] at hrel hCi
        cases q with
        | some q => exact hrel.elim
        | none =>
          refine ⟨(false, .nilp, .nilp, st.h), List.mem_map.2 ⟨none, List.mem_of_getElem? hq, rfl⟩, .tuple #[.bool false], w', ?_, hr', hs', overR⟩
          rw [hrun, hCi]
          rfl
      | some e =>
        rw [hCe] at hrel hCi
        cases q with
        | none => exact hrel.elim
        | some q =>
          obtain ⟨e1, e2, e3⟩ := hrel
          refine ⟨_, List.mem_map.2 ⟨some q, List.mem_of_getElem? hq, rfl⟩, ?_⟩
          have hwb' : w'.heap[g.blk]? = some (.mapIter (some g2.blk) since seen' last) := by rw [hw1]; exact hwb
          have hso := run_setObj (P := E.P) (ob' := .mapIter (some g2.blk) since (seen'.push e.born) c) hwb' (by simp)
          have hlt := hr'.h.blk_lt hg
          have hoth : ∀ b, b ≠ g.blk → ({ w' with heap := w'.heap.setIfInBounds g.blk (.mapIter (some g2.blk) since (seen'.push e.born) c) } : World).heap[b]? = w'.heap[b]? := by
            intro b hb
            show (w'.heap.setIfInBounds g.blk _)[b]? = _
            rw [Array.getElem?_setIfInBounds, if_neg (fun e => hb e.symm)]
          have hat : ({ w' with heap := w'.heap.setIfInBounds g.blk (.mapIter (some g2.blk) since (seen'.push e.born) c) } : World).heap[g.blk]? = some (.mapIter (some g2.blk) since (seen'.push e.born) c) := by
            show (w'.heap.setIfInBounds g.blk _)[g.blk]? = _
            rw [Array.getElem?_setIfInBounds, if_pos rfl, if_pos hlt]
          have hsz : ({ w' with heap := w'.heap.setIfInBounds g.blk (.mapIter (some g2.blk) since (seen'.push e.born) c) } : World).heap.size = w'.heap.size := by simp
          have hh := hr'.h.set_cells (o' := .iter (.map mid) since (seen ++ [q.1]) c) hg hid rfl hat ⟨hb0, hm, rfl, by simp [hseen, e1], rfl⟩ hoth
          refine ⟨.tuple #[.bool true, e.key, e.val], _, ?_, hr'.of_heap hh hsz hg hoth, hs'.trans (step_in hsz hg (still_of rfl rfl (by omega)) hoth), tup3 (.bool _) e2 e3⟩
          · rw [hrun, hCi]
            simp only [Sem.run_bind, hso, Result.andThen_ok]
            rfl
  · cases hl

theorem next_sound {it : Operand} (ho : o.op = .next it false) (he : evOp E o st K = some r) (hr : RelA E.n ρ lo st a w) (hn : Owes E o st ρ lo w K r next) :
    o.wp E.P a w next Q := by
  unfold evOp at he
  simp only [ho] at he
  split at he
  case h_2 => cases he
  rename_i p hp
  simp only [Option.bind_eq_some_iff] at he
  obtain ⟨q, hq, he⟩ := he
  unfold hnext at hq
  simp only [Option.bind_eq_some_iff] at hq
  obtain ⟨l, hl, hq⟩ := hq
  split at hq
  case h_2 => cases hq
  rename_i x0
  cases hq
  obtain ⟨x', hx', y, w', hrun, h1, h2, h3⟩ := next_run (E := E) (ty := o.type) hr (opnd_v hr hp) hl
  have ex := List.mem_singleton.1 hx'
  subst ex
  have he' : fin E o st K (.v (nextV x')) st.l x'.2.2.2 = some r := by
    unfold nextV
    split at he
    · rename_i hb
      rw [hb]
      exact he
    · rename_i hb
      have hb : x'.1 = false := by simpa using hb
      rw [hb]
      exact he
  refine upon_of (v := y) ?_ (fin_sound he' h1 (x := .v _) h3 h2 hn)
  unfold execOp
  simp [ho, hrun]

theorem entry_sound {it : Operand} (ho : o.op = .entry it) (he : evOp E o st K = some r) (hr : RelA E.n ρ lo st a w) (hn : Owes E o st ρ lo w K r next) :
    o.wp E.P a w next Q := by
  unfold evOp at he
  simp only [ho] at he
  split at he
  case h_2 => cases he
  rename_i p kt et hp hty
  simp only [Option.bind_eq_some_iff] at he
  obtain ⟨e, hcur, he⟩ := he
  obtain ⟨k, hk, he⟩ := tyDest1_inv he
  cases hk
  obtain ⟨v, hv, he⟩ := tyDest1_inv he
  cases hv
  have hpv := opnd_v hr hp
  unfold Go.L.hcur at hcur
  split at hcur
  case h_2 => cases hcur
  rename_i id
  split at hcur
  case h_2 => cases hcur
  rename_i mid since seen last hid
  split at hcur
  case h_2 => cases hcur
  rename_i c bs es hmid
  split at hcur
  case h_2 => cases hcur
  rename_i hc
  have hc := Nat.eq_of_beq_eq_true hc
  subst hc
  split at hcur
  case h_2 => cases hcur
  rename_i b hb
  obtain ⟨j, hj, hej⟩ := Option.bind_eq_some_iff.1 hcur
  obtain ⟨g, mo, seen', hy, hg, hwb, hb0, hm, hseen⟩ := iter_inv hr.h hpv hid
  have hgo := run_getObj (P := E.P) hwb (by simp)
  rcases hmap_rel hr.h hm (show hmap st.h (.map mid) = some es by simp [hmap, hmid]) with ⟨_, h1, _⟩ | ⟨id', g2, ms, c', bs', hmo, hmi, hg2, hid', hwb2, hbs, hrm⟩
  · cases h1
  · cases hmi
    rw [hmid] at hid'; cases hid'
    cases hmo
    have hgo2 := run_getObj (P := E.P) hwb2 (by simp)
    rw [hbs] at hj
    obtain ⟨hf, hlt⟩ := bidx_run hj
    have hback : seen'.back? = some b := by rw [← hb, ← hseen]; simp
    have hmj : ms.toList[j]? = some (ms.toList[j]) := List.getElem?_eq_getElem hlt
    have hfind : ms.find? (fun e => e.born == b) = some ms.toList[j] := find_of_idx hf hlt
    have hrel := hrm.2 j e _ hej hmj
    refine finV_sound he hr hn (y := .tuple #[ms.toList[j].key, ms.toList[j].val]) ?_ (tup2 hrel.1 hrel.2)
    unfold execOp
    simp [ho, Instr.entry, hy, hgo, hback, hgo2, hfind]

end ops
end
end Go.L

namespace Go.L
noncomputable section

def Ren.jump (ρ : Ren) (id : Nat) (v : Nat) : Ren := { ρ with vers := fun i => if i = id then v else ρ.vers i }

theorem Le.jump {ρ : Ren} {id v : Nat} (hv : ρ.vers id < v) : Le ρ (ρ.jump id v) where
  n := Nat.le_refl _
  vers i _ := by
    by_cases e : i = id
    · subst e; simp [Ren.jump]; omega
    · simp [Ren.jump, e]
  wr i _ hv' g' hg := hg
  ro _ _ h := h

theorem jump_rel {ρ : Ren} {h : H} {w w' : World} (hh : RelH ρ h w) {id : Nat} {g : Img} (hg : ρ.wr id = some g) {v v' : Nat} {cs : List V} (ho : h[id]? = some (.cells v cs)) (hvv : v < v')
    {ob' : Obj} (hw' : w'.heap[g.blk]? = some ob') (hro : RelO ρ g (.cells v' cs) ob')
    (hst : Still w w') (hsz : w'.heap.size = w.heap.size) (hoth : ∀ b, b ≠ g.blk → w'.heap[b]? = w.heap[b]?) :
    RelH (ρ.jump id v') (h.set id (.cells v' cs)) w' ∧ Step ρ nol w (ρ.jump id v') nol w' := by
  have hlt : id < h.length := (List.getElem?_eq_some_iff.1 ho).1
  have hver : ρ.vers id = v := by
    obtain ⟨o1, ob1, h1, _, _, h4⟩ := hh.obj id g hg
    rw [ho] at h1; cases h1; exact h4
  have hle : Le ρ (ρ.jump id v') := Le.jump (by omega)
  refine ⟨⟨by simp [Ren.jump, hh.n], ?_, ?_, hh.inj, ?_, hh.sep, ?_⟩, ⟨hle, hst, by omega, ?_⟩⟩
  · intro j o' hj hl
    by_cases e : j = id
    · exact ⟨g, by subst e; exact hg⟩
    · rw [List.getElem?_set, if_neg (fun x => e x.symm)] at hj
      exact hh.live j o' hj hl
  · intro j g1 hj
    replace hj : ρ.wr j = some g1 := hj
    by_cases e : j = id
    · subst e
      rw [hg] at hj; cases hj
      refine ⟨_, ob', by rw [List.getElem?_set, if_pos rfl, if_pos hlt], hw', hro.mono hle, by simp [Ren.jump, O.ver]⟩
    · obtain ⟨o1, ob1, h1, h2, h3, h4⟩ := hh.obj j g1 hj
      refine ⟨o1, ob1, by rw [List.getElem?_set, if_neg (fun x => e x.symm)]; exact h1, ?_, h3.mono hle, by simp [Ren.jump, e, h4]⟩
      rw [hoth _ (fun x => e (hh.inj j id g1 g hj hg x))]; exact h2
  · intro b ob hb
    have hb' : ρ.ro b = some ob := hb
    rw [hoth b (fun e => by subst e; have := hh.sep id g hg; rw [hb'] at this; cases this)]
    exact hh.ro b ob hb'
  · intro j hj
    by_cases e : id = j
    · subst e
      rw [List.getElem?_set, if_pos rfl, if_pos hlt] at hj
      cases hj
    · rw [List.getElem?_set, if_neg e] at hj
      have := hh.rsv j hj
      simpa [Ren.jump, Ne.symm e] using this
  · intro b hb h1 _
    exact ⟨hoth b (fun e => h1 id g hg e.symm), h1, fun _ => by simp [nol], rfl⟩

theorem bytesOfV_rel {ρ : Ren} : ∀ {cs : List V} {ys : List Value} {l : List UInt8}, RelL ρ cs ys → bytesOfV cs = some l → ∃ ns : List Int, ys = ns.map (Value.int .u8) ∧ ns.map (fun n => UInt8.ofNat n.toNat) = l
  | [], ys, l, hl, h => by
    cases h
    have : ys = [] := List.eq_nil_of_length_eq_zero (by rw [← hl.1]; rfl)
    exact ⟨[], by rw [this]; rfl, rfl⟩
  | v :: cs, ys, l, hl, h => by
    cases ys with
    | nil => have := hl.1; simp at this
    | cons y ys =>
      have hv := (hl.2 0 v y rfl rfl).1
      have hr : RelL ρ cs ys := ⟨by have := hl.1; simpa using this, fun i u z hu hz => hl.2 (i + 1) u z (by simpa using hu) (by simpa using hz)⟩
      unfold bytesOfV at h
      split at h
      · rename_i e; cases e
      · rename_i n r e
        cases e
        obtain ⟨x, hx, h⟩ := Option.bind_eq_some_iff.1 h
        cases h
        cases hv
        obtain ⟨ns, rfl, rfl⟩ := bytesOfV_rel hr hx
        exact ⟨n :: ns, rfl, rfl⟩
      · cases h

theorem foldl_pushL : ∀ (ns : List Int) (s : ByteArray), ns.foldl (fun r n => r.push (UInt8.ofNat n.toNat)) s = ⟨s.data ++ (ns.map fun n => UInt8.ofNat n.toNat).toArray⟩
  | [], s => by simp
  | n :: ns, s => by
    rw [List.foldl_cons, foldl_pushL ns]
    simp [ByteArray.push]

section ops
variable {R : Type} {E : Env} {o : Oper} {st : St} {K : St → Option R} {r : R} {ρ : Ren} {lo : Nat → Option Nat} {a : Act} {w : World}
  {next : Act → World → Prop} {Q : Exit → Act → World → Prop}

theorem heap_modify {h : Array Obj} {b : Nat} {f : Obj → Obj} {o : Obj} (hb : h[b]? = some o) : (h.modify b f)[b]? = some (f o) := by
  obtain ⟨hlt, rfl⟩ := Array.getElem?_eq_some_iff.1 hb
  rw [Array.getElem?_eq_getElem (by simpa using hlt), Array.getElem_modify_self]

theorem convOp_sound {src dst : TypeId} {x : Operand} (ho : o.op = .convert src dst x) (he : evOp E o st K = some r) (hr : RelA E.n ρ lo st a w) (hn : Owes E o st ρ lo w K r next) :
    o.wp E.P a w next Q := by
  unfold evOp at he
  simp only [ho] at he
  split at he
  · exact conv_sound ho he hr hn
  · rename_i hsc
    split at he
    case h_2 => cases he
    rename_i v hc
    have hx := opnd_v hr hc
    generalize hy : a.eval x = y at hx
    obtain ⟨cs, h1, he⟩ := Option.bind_eq_some_iff.1 he
    obtain ⟨s, h2, he⟩ := Option.bind_eq_some_iff.1 he
    obtain ⟨l, h3, rfl⟩ := Option.map_eq_some_iff.1 h2
    obtain ⟨ad, cap, ys, rfl, hys, hcl, hfc⟩ := scells_rel (P := E.P) hr.h hx (by decide) h1
    obtain ⟨ns, rfl, rfl⟩ := bytesOfV_rel hys h3
    unfold strConv at hsc
    split at hsc
    · rename_i e hu hd
      split at hsc
      case h_2 => cases hsc
      rename_i he8 _
      refine finV_sound he hr hn (y := .string ⟨(ns.map fun n => UInt8.ofNat n.toNat).toArray⟩) ?_ (.str _)
      have hrun : (convert src dst (.slice ad (snlen v) cap)).run E.P w = .ok (.string ⟨(ns.map fun n => UInt8.ofNat n.toNat).toArray⟩) w := by
        rw [run_convert_bytes_string w src dst e ad _ cap hu he8 hd]
        have hfc := hfc w rfl
        cases ad with
        | none =>
          have : ns = [] := by
            have h := hfc
            simp only [Builtin.firstCells, Sem.run_pure] at h
            injection h with h
            have h := congrArg Array.toList h
            simpa using h.symm
          subst this
          rfl
        | some ad =>
          simp only [Builtin.firstCells, Nat.mul_one] at hfc
          rw [run_bytesToString w ad _ cap ns hfc, foldl_pushL]
          simp
      unfold execOp
      simp [ho, hy, hrun]
    · split at hsc <;> cases hsc
    · cases hsc
  · rename_i hsc
    split at he
    case h_2 => cases he
    rename_i u0 hc
    have hx := opnd_v hr hc
    generalize hy : a.eval x = y at hx
    obtain ⟨q, h1, he⟩ := Option.bind_eq_some_iff.1 he
    unfold markS at h1
    split at h1
    case h_2 => cases h1
    rename_i id ver off len es cap
    split at h1
    case isFalse => cases h1
    rename_i hlen
    split at h1
    case h_2 => cases h1
    rename_i v cs hid
    split at h1
    case isFalse => cases h1
    rename_i hv
    obtain ⟨rfl, hv⟩ := hv
    cases h1
    unfold strConv at hsc
    split at hsc
    · split at hsc <;> cases hsc
    · rename_i e0 e hu hd
      split at hsc
      case h_2 => cases hsc
      rename_i he8 heq
      have heq := Nat.eq_of_beq_eq_true heq
      subst heq
      rw [hu] at hd
      cases hd
      obtain ⟨g, hg⟩ := hr.h.live id _ hid rfl
      obtain ⟨o1, ob, ho1, hwb, hro, hver⟩ := hr.h.obj id g hg
      rw [hid] at ho1
      cases ho1
      cases ob with
      | cells c et fr =>
        obtain ⟨q1, q2, q3, q4⟩ := hro
        have hfr : fr = (0, 0) := by
          rcases q3 with h | h
          · exact h
          · exact absurd h.2 (by omega)
        subst hfr
        cases hx with
        | sl _ _ _ _ _ _ ad rc k1 k2 k3 k4 k5 =>
          obtain ⟨rfl, k6⟩ := k5 g hver.symm hg (by omega)
          have hsh : w.shape? g.blk = some (et, c.size) := by simp [World.shape?, hwb]
          have hat : (w.freeze ⟨g.blk, c.size, none⟩ 1).heap[g.blk]? = some (.cells c et (c.size, c.size + 1)) := by
            unfold World.freeze
            rw [if_neg (by decide)]
            show (w.heap.modify g.blk _)[g.blk]? = _
            rw [heap_modify hwb]
            rfl
          have hoth : ∀ b, b ≠ g.blk → (w.freeze ⟨g.blk, c.size, none⟩ 1).heap[b]? = w.heap[b]? := by
            intro b hb
            unfold World.freeze
            rw [if_neg (by decide)]
            show (w.heap.modify g.blk _)[b]? = _
            rw [Array.getElem?_modify, if_neg (fun e => hb e.symm)]
          have hsz : (w.freeze ⟨g.blk, c.size, none⟩ 1).heap.size = w.heap.size := by
            unfold World.freeze
            rw [if_neg (by decide)]
            show (w.heap.modify g.blk _).size = _
            simp
          have hos : (w.freeze ⟨g.blk, c.size, none⟩ 1).os = w.os ∧ (w.freeze ⟨g.blk, c.size, none⟩ 1).output = w.output := by
            unfold World.freeze
            rw [if_neg (by decide)]
            exact ⟨rfl, rfl⟩
          obtain ⟨hh, hs⟩ := jump_rel (v' := v + 1 + strV) hr.h hg hid (by omega) hat ⟨q1, q2, .inr ⟨Nat.le_refl _, by omega⟩, q4⟩ (still_of hos.1 hos.2 (by omega)) hsz hoth
          obtain ⟨g1, g2⟩ := hr.lift hh hs
          refine upon_of (v := .slice (some ⟨g.blk, g.base + off, none⟩) len rc) (w' := w.freeze ⟨g.blk, c.size, none⟩ 1) ?_ (fin_sound he g1 (x := .v _) (.sl _ _ _ _ _ _ _ rc k1 (by simp [Ren.jump]) k3 k4 fun g3 _ hg3 _ => ?_) g2 hn)
          · unfold execOp
            simp [ho, hy, convert, run_underlying hu, run_underlying he8, markStringish, hsh]
          · replace hg3 : ρ.wr id = some g3 := hg3
            rw [hg] at hg3; cases hg3
            exact ⟨rfl, k6⟩
      | _ => exact hro.elim
    · cases hsc

end ops
end
end Go.L

namespace Go.L
noncomputable section

section ops
variable {R : Type} {E : Env} {o : Oper} {st : St} {K : St → Option R} {r : R} {ρ : Ren} {lo : Nat → Option Nat} {a : Act} {w : World}
  {next : Act → World → Prop} {Q : Exit → Act → World → Prop}

theorem finF_sound {es : Nat} (hes : es ≠ 0) {v : V} {h : H} (he : finF E o st K es v h = some r) {ρ' : Ren} {w' : World} {y : Value} (hr : RelA E.n ρ' lo ⟨st.s, st.l, h⟩ a w') (hx : RelV ρ' v y)
    (hs : Step ρ lo w ρ' lo w') (hn : Owes E o st ρ lo w K r next) : next (a.put o.dst y) w' := by
  unfold finF at he
  split at he
  · simp only [Option.bind_eq_some_iff] at he
    obtain ⟨q, hq, he⟩ := he
    obtain ⟨ρ2, h1, h2, h3⟩ := hfreeze_rel hr.h hx (h' := q.2) (v := q.1) hq hes
    obtain ⟨g1, g2⟩ := hr.lift h1 h2
    exact fin_sound he g1 (x := .v q.1) h3 (hs.trans g2) hn
  · exact fin_sound he hr (x := .v v) hx hs hn

theorem appendOp_sound {c : Call} (ho : o.op = .call c) (hc : c.callee = .builtin .append) {s x : V} {sv xv : Value} (hargs : c.args.map a.eval = #[sv, xv]) (hs : RelV ρ s sv) (hx : RelV ρ x xv)
    (he : evBuiltin E o .append c.argTypes [s, x] st K = some r) (hr : RelA E.n ρ lo st a w) (hn : Owes E o st ρ lo w K r next) : o.wp E.P a w next Q := by
  simp only [evBuiltin] at he
  split at he
  · rename_i e e' h1 h2
    simp only [Option.bind_eq_some_iff] at h1 h2
    obtain ⟨sT, hsT, h1⟩ := h1
    obtain ⟨xT, hxT, h2⟩ := h2
    have hu := elemOf_inv h1
    split at he
    · rename_i hcc
      split at he
      · cases he
      · rename_i hne
        split at he
        · rename_i hbytes
          split at he
          · rename_i hz
            simp only [Option.bind_eq_some_iff] at he
            obtain ⟨cs, hcs, q, hq, he⟩ := he
            simp only [Option.map_eq_some_iff] at hz
            obtain ⟨z, hz0, hzl⟩ := hz
            obtain ⟨i, zv, hi, hzv, hzc⟩ := zeroCells_inv hz0
            have hzs : zv.cells.size = E.P.cellsOf e := by
              rw [← hzl, (cstVs_relL ρ hzc).1]; simp
            obtain ⟨y, w', ρ', hrun, g1, g2, g3⟩ := happ_rel (ty := o.type) hu h2 hi hzv hzs hne hbytes hr hs hx hcs (v := q.1) (h' := q.2) hq
            refine upon_of (builtin_run ho hc fun cs => ?_) (finF_sound hne he g1 g3 g2 hn)
            rw [hargs]
            have e1 : Builtin.append_ c.argTypes o.type #[sv, xv] = Builtin.append_ #[sT, xT] o.type #[sv, xv] := by
              simp only [Builtin.append_, hsT, hxT]
              rfl
            simp only [builtin, e1, Sem.run_bind, hrun, Result.andThen_ok, Sem.run_pure]
          · cases he
        · cases he
    · cases he
  · rename_i e h1 h2
    simp only [Option.bind_eq_some_iff] at h1 h2
    obtain ⟨sT, hsT, h1⟩ := h1
    obtain ⟨xT, hxT, h2⟩ := h2
    have hu := elemOf_inv h1
    split at he
    case h_2 => cases he
    rename_i t
    cases hx
    split at he
    case isFalse => cases he
    rename_i hc1
    split at he
    case isFalse => cases he
    rename_i hbytes
    split at he
    case isFalse => cases he
    rename_i hz
    obtain ⟨q, hq, he⟩ := Option.bind_eq_some_iff.1 he
    simp only [Option.map_eq_some_iff] at hz
    obtain ⟨z, hz0, hzl⟩ := hz
    obtain ⟨i, zv, hi, hzv, hzc⟩ := zeroCells_inv hz0
    have hzs : zv.cells.size = E.P.cellsOf e := by
      rw [hc1, ← hzl, (cstVs_relL ρ hzc).1]; simp
    obtain ⟨y, w', ρ', hrun, g1, g2, g3⟩ := happ_str (ty := o.type) hu h2 hi hzv hzs hc1 hbytes hr hs (v := q.1) (h' := q.2) hq
    refine upon_of (builtin_run ho hc fun cs => ?_) (finF_sound (by omega) he g1 g3 g2 hn)
    rw [hargs]
    have e1 : Builtin.append_ c.argTypes o.type #[sv, .string t] = Builtin.append_ #[sT, xT] o.type #[sv, .string t] := by
      simp only [Builtin.append_, hsT, hxT]
      rfl
    simp only [builtin, e1, Sem.run_bind, hrun, Result.andThen_ok, Sem.run_pure]
  · cases he

theorem hwrAll_sound {es : Nat} {s : V} {sv : Value} (hes : es ≠ 0) (hr : RelA E.n ρ lo st a w) (hs : RelV ρ s sv) {cs : List V} {ys : List Value} (hl : RelL ρ cs ys) {h' : H} (he : hwrAll st.h s es cs = some h') :
    ∃ ad cap w', sv = .slice ad (snlen s) cap ∧ (∀ b, ad = some b → (storeCells b ys 0).run E.P w = .ok () w') ∧ (ad = none → w' = w) ∧ RelA E.n ρ lo ⟨st.s, st.l, h'⟩ a w' ∧ Step ρ lo w ρ lo w' := by
  unfold hwrAll at he
  split at he
  · rename_i id ver off len es' cap
    split at he
    case isFalse => cases he
    rename_i h1
    subst h1
    split at he
    case isFalse => cases he
    rename_i h2
    cases hs with
    | sl _ _ _ _ _ _ ad rc g1 g2 g3 g4 g5 =>
      split at he
      · cases he
        have : ys = [] := List.eq_nil_of_length_eq_zero (by rw [← hl.1]; rfl)
        subst this
        exact ⟨some ad, rc, w, rfl, (fun b hb => rfl), (fun h => by cases h), hr, .refl _ _ _⟩
      · rename_i c cs
        have hpos : 0 < len := by
          rcases Nat.eq_zero_or_pos len with h | h
          · subst h; simp at h2
          · exact h
        have hp : RelV ρ (.ptr id ver off) (.pointer (some ad)) := .ptr _ _ _ _ g1 g2 fun g hv hg => (g5 g hv hg (by omega)).1
        obtain ⟨ad', w', l', h'', hx, hrun, hk, hr', hs'⟩ := put_sound E.P (st := st) hr (p := .v (.ptr id ver off)) hp hl (K := fun l h => some (l, h)) (r := (st.l, h')) (by
          simp only [St.put, he, Option.bind_some])
        cases hx
        cases hk
        exact ⟨some _, rc, w', rfl, (fun b hb => by cases hb; exact hrun), (fun h => by cases h), hr', hs'⟩
  · split at he
    · cases he
      cases hs
      exact ⟨none, 0, w, rfl, (fun b hb => by cases hb), (fun _ => rfl), hr, .refl _ _ _⟩
    · cases he
  · cases he

theorem clear_sound {c : Call} (ho : o.op = .call c) (hc : c.callee = .builtin .clear) {s : V} {sv : Value} (hargs : c.args.map a.eval = #[sv]) (hs : RelV ρ s sv)
    (he : evBuiltin E o .clear c.argTypes [s] st K = some r) (hr : RelA E.n ρ lo st a w) (hn : Owes E o st ρ lo w K r next) : o.wp E.P a w next Q := by
  simp only [evBuiltin] at he
  split at he
  case h_2 => cases he
  rename_i e hel
  split at he
  case isTrue => cases he
  rename_i hne
  obtain ⟨z, hz, he⟩ := Option.bind_eq_some_iff.1 he
  split at he
  case isFalse => cases he
  rename_i hzl
  obtain ⟨h', hw, he⟩ := Option.bind_eq_some_iff.1 he
  obtain ⟨sT, hsT, hel⟩ := Option.bind_eq_some_iff.1 hel
  have hu := elemOf_inv hel
  obtain ⟨i, zv, hi, hzv, hzc⟩ := zeroCells_inv hz
  have hzr := cstVs_relL ρ hzc
  have hzs : zv.cells.size = z.length := by rw [hzr.1]; simp
  have hrep := zeros_rel (ρ := ρ) (z := z) (zs := zv.cells) hzr (by omega) (snlen s)
  obtain ⟨ad, cap, w', rfl, h1, h2, h3, h4⟩ := hwrAll_sound hne hr hs hrep hw
  refine upon_of (v := .tuple #[]) (builtin_run ho hc fun cs => ?_) (fin_sound he h3 (x := .v (.tup [])) (.tup _ _ rfl (by simp)) h4 hn)
  rw [hargs]
  have e0 : (#[Value.slice ad (snlen s) cap] : Array Value)[0]? = some (.slice ad (snlen s) cap) := rfl
  simp only [builtin, Builtin.clear_, hsT, e0, Sem.run_bind, run_underlying hu, Result.andThen_ok]
  cases ad with
  | none =>
    rw [h2 rfl]
    rfl
  | some b =>
    have e2 := h1 b rfl
    by_cases h0 : snlen s = 0
    · rw [h0] at e2 ⊢
      have e1 : (storeCells b ((Array.range (0 * z.length)).map (fun i => zv.cells[i % zv.cells.size]!)).toList 0).run E.P w = .ok () w := by
        have : ((Array.range (0 * z.length)).map (fun i => zv.cells[i % zv.cells.size]!)).toList = [] := by simp
        rw [this]; rfl
      rw [e1] at e2
      cases e2
      rfl
    · obtain ⟨m, hm⟩ : ∃ m, snlen s = m + 1 := ⟨snlen s - 1, by omega⟩
      rw [hm] at e2 ⊢
      rw [← hzs] at e2
      simp only [Sem.run_bind, run_zeroValue hi hzv, Result.andThen_ok, Builtin.zeroCells, e2]
      rfl

theorem copy_sound {c : Call} (ho : o.op = .call c) (hc : c.callee = .builtin .copy) {d s : V} {dv sv : Value} (hargs : c.args.map a.eval = #[dv, sv]) (hd : RelV ρ d dv) (hs : RelV ρ s sv)
    (he : evBuiltin E o .copy c.argTypes [d, s] st K = some r) (hr : RelA E.n ρ lo st a w) (hn : Owes E o st ρ lo w K r next) : o.wp E.P a w next Q := by
  simp only [evBuiltin] at he
  split at he
  case h_2 => cases he
  rename_i e hel
  split at he
  case isTrue => cases he
  rename_i hne
  obtain ⟨cs, hcs, he⟩ := Option.bind_eq_some_iff.1 he
  split at he
  case isFalse => cases he
  rename_i hle
  obtain ⟨h', hw, he⟩ := Option.bind_eq_some_iff.1 he
  obtain ⟨dT, hdT, hel⟩ := Option.bind_eq_some_iff.1 hel
  have hu := elemOf_inv hel
  obtain ⟨sad, scap, ys, rfl, hys, hcl, hfc⟩ := scells_rel (P := E.P) hr.h hs hne hcs
  obtain ⟨ad, cap, w', rfl, h1, h2, h3, h4⟩ := hwrAll_sound hne hr hd hys hw
  refine upon_of (v := .int .i64 (snlen s)) (builtin_run ho hc fun cs => ?_) (fin_sound he h3 (x := .v (.int .i64 (snlen s))) (.int _ _) h4 hn)
  rw [hargs]
  have hmin : Nat.min (snlen s) (snlen d) = snlen s := Nat.min_eq_left hle
  simp only [builtin, Builtin.copy_, hdT, Sem.run_bind]
  have e0 : (#[Value.slice ad (snlen d) cap, Value.slice sad (snlen s) scap] : Array Value)[0]? = some (.slice ad (snlen d) cap) := rfl
  have e1 : (#[Value.slice ad (snlen d) cap, Value.slice sad (snlen s) scap] : Array Value)[1]? = some (.slice sad (snlen s) scap) := rfl
  simp only [e0, e1, Sem.run_bind, run_underlying hu, Result.andThen_ok, lenOf_slice, hmin, run_sizeOf_ne hne, hfc w rfl]
  cases ad with
  | none => rw [h2 rfl]; rfl
  | some b =>
    simp only [Sem.run_bind, h1 b rfl, Result.andThen_ok]
    rfl

theorem cap_sound {c : Call} (ho : o.op = .call c) (hc : c.callee = .builtin .cap) {s : V} {sv : Value} (hargs : c.args.map a.eval = #[sv]) (hs : RelV ρ s sv)
    (he : evBuiltin E o .cap c.argTypes [s] st K = some r) (hr : RelA E.n ρ lo st a w) (hn : Owes E o st ρ lo w K r next) : o.wp E.P a w next Q := by
  simp only [evBuiltin] at he
  split at he
  case h_2 => cases he
  rename_i e hel
  obtain ⟨n, hn', he⟩ := Option.bind_eq_some_iff.1 he
  obtain ⟨sT, hsT, hel⟩ := Option.bind_eq_some_iff.1 hel
  have hu := elemOf_inv hel
  have : ∃ ad l rc, sv = .slice ad l rc ∧ n = (rc : Int) := by
    unfold scapK at hn'
    split at hn'
    · cases hn'; cases hs; exact ⟨_, _, _, rfl, rfl⟩
    · cases hn'
      cases hs with
      | sl _ _ _ _ _ _ ad rc g1 g2 g3 g4 g5 => exact ⟨_, _, _, rfl, by rw [g4 _ rfl]⟩
    · cases hn'
  obtain ⟨ad, l, rc, rfl, rfl⟩ := this
  refine upon_of (w' := w) (v := .int .i64 rc) (builtin_run ho hc fun cs => ?_) (fin_sound he hr (x := .v (.int .i64 rc)) (.int _ _) (Step.refl _ _ _) hn)
  rw [hargs]
  have e0 : (#[Value.slice ad l rc] : Array Value)[0]? = some (.slice ad l rc) := rfl
  simp only [builtin, Builtin.cap_, hsT, e0, Sem.run_bind, run_underlying hu, Result.andThen_ok]
  rfl

theorem callFunc_run {P : Program} {f : FuncId} (h : Callable P f) (args : Array Value) : (callFunc f args).run P w = .ok (.enter f args) w := by
  obtain ⟨fn, h1, h2, h3⟩ := h
  simp only [callFunc, Sem.run_bind, run_program, Result.andThen_ok, h1, h2, Bool.false_eq_true, if_false, h3, Sem.run_pure]

theorem call_sound {f : FuncId} {vs : List V} {xs : Array Value} {v : V} {h' : H} (ht : Triple E.P f vs st.h v h') (hsz : xs.size = vs.length) (hrel : ∀ (i : Nat) (u : V) (x : Value), vs[i]? = some u → xs[i]? = some x → RelV ρ u x)
    (hrun : (execOp a.eval o).run E.P w = .ok (.enter f xs) w) (hr : RelA E.n ρ lo st a w)
    (hfin : ∀ (ρ' : Ren) (w' : World) (y : Value), RelA E.n ρ' lo ⟨st.s, st.l, h'⟩ a w' → Step ρ lo w ρ' lo w' → RelV ρ' v y → next (a.put o.dst y) w') : o.wp E.P a w next Q := by
  unfold Oper.wp
  rw [hrun]
  refine Calls.mono (ht ρ w xs hr.h hsz hrel) fun e w' hpost => ?_
  obtain ⟨ρ', y, rfl, h1, h2, h3⟩ := hpost
  obtain ⟨g1, g2⟩ := hr.lift h1 h2
  exact hfin ρ' w' y g1 g2 h3

theorem callK_sound (hE : Good E) {f : FuncId} {vs : List V} {xs : Array Value} (he : callK E o st K f vs = some r) (hsz : xs.size = vs.length) (hrel : ∀ (i : Nat) (u : V) (x : Value), vs[i]? = some u → xs[i]? = some x → RelV ρ u x)
    (hrun : (execOp a.eval o).run E.P w = (callFunc f xs).run E.P w) (hr : RelA E.n ρ lo st a w) (hn : Owes E o st ρ lo w K r next) : o.wp E.P a w next Q := by
  unfold callK at he
  have run : Callable E.P f → (execOp a.eval o).run E.P w = .ok (.enter f xs) w := fun hcall => by rw [hrun]; exact callFunc_run hcall _
  split at he
  · rename_i F hF
    simp only [Option.bind_eq_some_iff] at he
    obtain ⟨v, hv, he⟩ := he
    obtain ⟨hcall, ht⟩ := hE.cal f _ hF vs v hv
    obtain ⟨v', hv', he⟩ := tyDest_inv he
    cases hv'
    exact call_sound (ht st.h) hsz hrel (run hcall) hr fun ρ' w' y g1 g2 g3 => fin_sound he g1 (x := .v _) g3 g2 hn
  · rename_i F hF
    simp only [Option.bind_eq_some_iff] at he
    obtain ⟨v, hv, he⟩ := he
    obtain ⟨y, h1, h2⟩ := hE.cal f _ hF vs v hv ρ w xs hsz hrel
    obtain ⟨v', hv', he⟩ := tyDest_inv he
    cases hv'
    exact still_sound he hr hn (hrun.trans h1) h2
  · rename_i F hF
    simp only [Option.bind_eq_some_iff] at he
    obtain ⟨v, hv, he⟩ := he
    obtain ⟨hcall, ht⟩ := hE.cal f _ hF vs st.h v hv
    obtain ⟨v', hv', he⟩ := tyDest_inv he
    cases hv'
    exact call_sound ht hsz hrel (run hcall) hr fun ρ' w' y g1 g2 g3 => fin_sound he g1 (x := .v _) g3 g2 hn
  · rename_i F hF
    simp only [Option.bind_eq_some_iff] at he
    obtain ⟨q, hq, he⟩ := he
    obtain ⟨hcall, ht⟩ := hE.cal f _ hF vs st.h q hq
    obtain ⟨v', hv', he⟩ := tyDest_inv he
    cases hv'
    refine call_sound ht hsz hrel (run hcall) hr fun ρ' w' y g1 g2 g3 => ?_
    split at he
    · rename_i e _ hel
      split at he
      · exact finF_sound (by assumption) he g1 g3 g2 hn
      · cases he
    · cases he
    · exact fin_sound he g1 (x := .v _) g3 g2 hn
  · rename_i F hF
    simp only [Option.bind_eq_some_iff] at he
    obtain ⟨q, hq, he⟩ := he
    obtain ⟨⟨hcall, ht⟩, _⟩ := hE.cal f _ hF vs st.h q hq
    obtain ⟨v', hv', he⟩ := tyDest_inv he
    cases hv'
    refine call_sound ht hsz hrel (run hcall) hr fun ρ' w' y g1 g2 g3 => ?_
    split at he
    · rename_i e _ hel
      split at he
      · exact finF_sound (by assumption) he g1 g3 g2 hn
      · cases he
    · cases he
    · exact fin_sound he g1 (x := .v _) g3 g2 hn
  · rename_i F hF
    simp only [Option.bind_eq_some_iff] at he
    obtain ⟨q, hq, he⟩ := he
    obtain ⟨⟨hcall, ht⟩, _⟩ := hE.cal f _ hF vs st.h q hq
    obtain ⟨v', hv', he⟩ := tyDest_inv he
    cases hv'
    refine call_sound ht hsz hrel (run hcall) hr fun ρ' w' y g1 g2 g3 => ?_
    split at he
    · rename_i e _ hel
      split at he
      · exact finF_sound (by assumption) he g1 g3 g2 hn
      · cases he
    · cases he
    · exact fin_sound he g1 (x := .v _) g3 g2 hn
  · cases he

theorem callOp_sound (hE : Good E) {c : Call} (ho : o.op = .call c) (he : evOp E o st K = some r) (hr : RelA E.n ρ lo st a w) (hn : Owes E o st ρ lo w K r next) : o.wp E.P a w next Q := by
  unfold evOp at he
  simp only [ho] at he
  split at he
  · rename_i f hc
    obtain ⟨vs, h1, h2, he⟩ := argsK_inv hr he
    obtain ⟨h3, h4⟩ := args_rel h1 h2
    refine callK_sound hE he h3 h4 ?_ hr hn
    unfold execOp
    simp only [ho, resolve, hc, Act.eval, Deferred.ofValue, pure_bind, invoke]
    rw [show (#[] ++ c.args.map a.eval ++ #[] : Array Value) = c.args.map a.eval from by simp]
  · rename_i t hc
    split at he
    · rename_i F hF
      split at he
      · rename_i x hp
        obtain ⟨vs, h1, h2, he⟩ := argsK_inv hr he
        obtain ⟨h3, h4⟩ := args_rel h1 h2
        obtain ⟨q, hq, he2⟩ := Option.bind_eq_some_iff.1 he
        obtain ⟨f, cap, hx, hcall, ht⟩ := hE.cal _ _ hF x vs st.h q hq
        subst hx
        have hfv : RelV ρ (.fn f cap) (a.eval (.tmp t)) := by
          have := hr.s t
          rw [hp] at this
          exact this
        generalize hfx : a.eval (.tmp t) = fx at hfv
        cases hfv with
        | fn _ _ xs k1 k2 =>
          obtain ⟨v', hv', he3⟩ := tyDest_inv he2
          cases hv'
          refine call_sound (xs := c.args.map a.eval ++ xs) ht (by rw [Array.size_append, h3, k1, List.length_append]) (fun i u x hu hx => ?_) ?_ hr fun ρ' w' y g1 g2 g3 => fin_sound he3 g1 (x := .v _) g3 g2 hn
          · by_cases hi : i < vs.length
            · rw [List.getElem?_append_left hi] at hu
              rw [Array.getElem?_append_left (by rw [h3]; exact hi)] at hx
              exact h4 i u x hu hx
            · rw [List.getElem?_append_right (by omega)] at hu
              rw [Array.getElem?_append_right (by rw [h3]; omega), h3] at hx
              exact k2 _ u x hu hx
          · rw [← callFunc_run hcall]
            unfold execOp
            simp only [ho, resolve, hc, hfx, Deferred.ofValue, pure_bind, invoke]
            rw [show (#[] ++ c.args.map a.eval ++ xs : Array Value) = c.args.map a.eval ++ xs from by simp]
      · cases he
    · split at he
      · rename_i f cap hp
        obtain ⟨vs, h1, h2, he⟩ := argsK_inv hr he
        obtain ⟨h3, h4⟩ := args_rel h1 h2
        have hfv : RelV ρ (.fn f cap) (a.eval (.tmp t)) := by
          have := hr.s t
          rw [hp] at this
          exact this
        generalize hfx : a.eval (.tmp t) = fx at hfv
        cases hfv with
        | fn _ _ xs k1 k2 =>
          refine callK_sound (xs := c.args.map a.eval ++ xs) hE he (by rw [Array.size_append, h3, k1, List.length_append]) (fun i u x hu hx => ?_) ?_ hr hn
          · by_cases hi : i < vs.length
            · rw [List.getElem?_append_left hi] at hu
              rw [Array.getElem?_append_left (by rw [h3]; exact hi)] at hx
              exact h4 i u x hu hx
            · rw [List.getElem?_append_right (by omega)] at hu
              rw [Array.getElem?_append_right (by rw [h3]; omega), h3] at hx
              exact k2 _ u x hu hx
          · unfold execOp
            simp only [ho, resolve, hc, hfx, Deferred.ofValue, pure_bind, invoke]
            rw [show (#[] ++ c.args.map a.eval ++ xs : Array Value) = c.args.map a.eval ++ xs from by simp]
      · cases he
  · rename_i b hc
    obtain ⟨vs, h1, h2, he⟩ := argsK_inv hr he
    by_cases hb : b = .min ∨ b = .max ∨ b = .real ∨ b = .imag ∨ b = .complex
    · exact small_sound ho hc h1 h2 hb he hr hn
    · have two : ∀ p q, vs = [p, q] → ∃ y z, c.args.map a.eval = #[y, z] ∧ RelV ρ p y ∧ RelV ρ q z := fun p q e => by subst e; exact args2 h1 h2
      have one : ∀ p, vs = [p] → ∃ y, c.args.map a.eval = #[y] ∧ RelV ρ p y := fun p e => by subst e; exact args1 h1 h2
      cases b <;> first
        | (exfalso; apply hb; simp; done)
        | skip
      case len =>
        match vs, he, one with
        | [p], he, one => obtain ⟨y, g1, g2⟩ := one p rfl; exact len_sound ho hc g1 g2 he hr hn
        | [], he, _ => simp [evBuiltin] at he
        | _ :: _ :: _, he, _ => simp [evBuiltin] at he
      case append =>
        match vs, he, two with
        | [p, q], he, two => obtain ⟨y, z, g1, g2, g3⟩ := two p q rfl; exact appendOp_sound ho hc g1 g2 g3 he hr hn
        | [], he, _ => simp [evBuiltin] at he
        | [_], he, _ => simp [evBuiltin] at he
        | _ :: _ :: _ :: _, he, _ => simp [evBuiltin] at he
      case delete =>
        match vs, he, two with
        | [p, q], he, two => obtain ⟨y, z, g1, g2, g3⟩ := two p q rfl; exact delete_sound ho hc g1 g2 g3 he hr hn
        | [], he, _ => simp [evBuiltin] at he
        | [_], he, _ => simp [evBuiltin] at he
        | _ :: _ :: _ :: _, he, _ => simp [evBuiltin] at he
      case clear =>
        match vs, he, one with
        | [p], he, one => obtain ⟨y, g1, g2⟩ := one p rfl; exact clear_sound ho hc g1 g2 he hr hn
        | [], he, _ => simp [evBuiltin] at he
        | _ :: _ :: _, he, _ => simp [evBuiltin] at he
      case cap =>
        match vs, he, one with
        | [p], he, one => obtain ⟨y, g1, g2⟩ := one p rfl; exact cap_sound ho hc g1 g2 he hr hn
        | [], he, _ => simp [evBuiltin] at he
        | _ :: _ :: _, he, _ => simp [evBuiltin] at he
      case copy =>
        match vs, he, two with
        | [p, q], he, two => obtain ⟨y, z, g1, g2, g3⟩ := two p q rfl; exact copy_sound ho hc g1 g2 g3 he hr hn
        | [], he, _ => simp [evBuiltin] at he
        | [_], he, _ => simp [evBuiltin] at he
        | _ :: _ :: _ :: _, he, _ => simp [evBuiltin] at he
      all_goals (exfalso; revert he; cases vs <;> simp [evBuiltin])
  · cases he

theorem evOp_sound (hE : Good E) (he : evOp E o st K = some r) (hr : RelA E.n ρ lo st a w) (hn : Owes E o st ρ lo w K r next) : o.wp E.P a w next Q := by
  cases ho : o.op with
  | move x => exact move_sound (.inl ho) (by unfold evOp at he; simpa only [ho] using he) hr hn
  | assign x => exact move_sound (.inr ho) (by unfold evOp at he; simpa only [ho] using he) hr hn
  | pick c x y => exact pick_sound ho he hr hn
  | alloc t => exact alloc_sound ho he hr hn
  | box t x => exact box_sound ho he hr hn
  | build t ps => exact build_sound ho he hr hn
  | buildSlice t l ps => exact buildSlice_sound ho he hr hn
  | load t x => exact load_sound ho he hr hn
  | store t x y => exact store_sound ho he hr hn
  | nilCheck x => exact nilCheck_sound ho he hr hn
  | binOp op t x y t' => exact binOp_sound ho he hr hn
  | unOp op t x => exact unOp_sound ho he hr hn
  | convert s t x => exact convOp_sound ho he hr hn
  | makeFunc f fs cs =>
    cases f with
    | func f => exact makeFunc_sound ho he hr hn
    | _ => unfold evOp at he; simp only [ho] at he; cases he
  | makeMap t x =>
    cases x with
    | none => exact makeMap_sound ho he hr hn
    | some x => unfold evOp at he; simp only [ho] at he; cases he
  | makeSlice t l c => exact makeSlice_sound ho he hr hn
  | slice t x l u m => exact sliceOp_sound ho he hr hn
  | fieldAddr t x i => exact fieldAddr_sound ho he hr hn
  | field t x i => exact field_sound ho he hr hn
  | indexAddr t x i => exact indexAddr_sound ho he hr hn
  | index t x i => exact index_sound ho he hr hn
  | lookup t x i ok => exact lookup_sound ho he hr hn
  | mapUpdate t m k v => exact mapUpdate_sound ho he hr hn
  | mapEntry t m k => exact mapEntry_sound ho he hr hn
  | entryStore t m s v => exact entryStore_sound ho he hr hn
  | entry it => exact entry_sound ho he hr hn
  | range t x => exact range_sound ho he hr hn
  | next it b =>
    cases b with
    | false => exact next_sound ho he hr hn
    | true => unfold evOp at he; simp only [ho] at he; cases he
  | extract x i => exact extract_sound ho he hr hn
  | call c => exact callOp_sound hE ho he hr hn
  | _ => unfold evOp at he; simp only [ho] at he; cases he

end ops
end
end Go.L

namespace Go.L
noncomputable section

def wpL (P : Program) (ops : Array Oper) (Q : Exit → Act → World → Prop) (next : Act → World → Prop) : List Oper → Act → World → Prop
  | [] => next
  | o :: rest => fun a w =>
    if Region.wanted o (yielded ops a.tmps) then o.wp P a w (wpL P ops Q next rest) Q ∨ (o.asks P a w ∧ LetsOut Q) else wpL P ops Q next rest (a.put o.dst undef) w

theorem wpL_append {P : Program} {ops : Array Oper} {Q : Exit → Act → World → Prop} {next : Act → World → Prop} : ∀ (l l' : List Oper),
    wpL P ops Q next (l ++ l') = wpL P ops Q (wpL P ops Q next l') l
  | [], _ => rfl
  | o :: l, l' => by
    simp only [List.cons_append, wpL, wpL_append l l']

theorem wpL_list {P : Program} {ops : Array Oper} {Q : Exit → Act → World → Prop} : ∀ (l : List Oper), wpL P ops Q (Q .normal) l = wpList P ops Q l
  | [] => rfl
  | o :: l => by
    funext a w
    simp only [wpL, wpList, wpL_list l]

theorem lk_clr : ∀ (l : List Oper) (s : List (Nat × S)) (i : Nat), lk (clr l s) i = .bad ∨ ((∀ o ∈ l, o.dst ≠ some i) ∧ lk (clr l s) i = lk s i)
  | [], s, i => .inr ⟨by simp, rfl⟩
  | o :: l, s, i => by
    unfold clr
    split
    · rename_i d hd
      rw [lk_cons]
      by_cases h : d = i
      · left; rw [if_pos h]
      · rw [if_neg h]
        rcases lk_clr l s i with h1 | ⟨h1, h2⟩
        · exact .inl h1
        · refine .inr ⟨fun o' ho' => ?_, h2⟩
          rcases List.mem_cons.1 ho' with rfl | ho'
          · rw [hd]; intro e; cases e; exact h rfl
          · exact h1 o' ho'
    · rename_i hd
      rcases lk_clr l s i with h1 | ⟨h1, h2⟩
      · exact .inl h1
      · refine .inr ⟨fun o' ho' => ?_, h2⟩
        rcases List.mem_cons.1 ho' with rfl | ho'
        · rw [hd]; intro e; cases e
        · exact h1 o' ho'

theorem lk_clr_of : ∀ (l : List Oper) (s : List (Nat × S)) (i : Nat), (∀ o ∈ l, o.dst ≠ some i) → lk (clr l s) i = lk s i
  | [], s, i, _ => rfl
  | o :: l, s, i, h => by
    unfold clr
    have ih := lk_clr_of l s i fun o' ho' => h o' (List.mem_cons_of_mem _ ho')
    split
    · rename_i d hd
      rw [lk_cons, if_neg (fun e => h o (List.mem_cons_self ..) (by rw [hd, e])), ih]
    · exact ih

def boolOf (v : Value) : Option Bool :=
  match v with
  | .bool b => some b
  | _ => none

section
variable {R : Type} {E : Env} {ρ : Ren} {lo : Nat → Option Nat} {a : Act} {w : World} {ops : Array Oper}

theorem dstOf_yielded {j cj : Nat} (h : dstOf ops j = some cj) (tmps : Array Value) : yielded ops tmps j = boolOf (tmps.getD cj undef) := by
  unfold yielded dstOf at *
  rw [h]
  simp only [Option.bind_some, Array.getD_eq_getD_getElem?]
  cases hx : tmps[cj]? with
  | none => simp [undef, boolOf]
  | some x => cases x <;> rfl

theorem slot_bool {st : St} (hr : RelA E.n ρ lo st a w) {i : Nat} {b : Bool} (hc : lk st.s i = .v (.bool b)) : a.tmps.getD i undef = .bool b := by
  have := hr.s i
  rw [hc] at this
  revert this
  generalize a.tmps.getD i undef = v
  intro this
  cases this
  rfl

theorem slot_un {st : St} (hr : RelA E.n ρ lo st a w) {i : Nat} (hc : lk st.s i = .un) : a.tmps.getD i undef = undef := by
  have := hr.s i
  rw [hc] at this
  exact this

theorem RelA.reslot {n : Nat} {st : St} (hr : RelA n ρ lo st a w) {d : Nat} {x : S} (hx : RelS ρ lo x (a.tmps.getD d undef)) : RelA n ρ lo ⟨(d, x) :: st.s, st.l, st.h⟩ a w :=
  ⟨hr.h, fun i => by
    rw [lk_cons]
    by_cases h : d = i
    · subst h; rw [if_pos rfl]; exact hx
    · rw [if_neg h]; exact hr.s i, hr.l, hr.ldom, hr.lout, hr.linj, hr.size, hr.defs⟩

theorem RelA.slots {n : Nat} {st : St} (hr : RelA n ρ lo st a w) {s : List (Nat × S)} (hs : ∀ i, RelS ρ lo (lk s i) (a.tmps.getD i undef)) : RelA n ρ lo ⟨s, st.l, st.h⟩ a w :=
  ⟨hr.h, hs, hr.l, hr.ldom, hr.lout, hr.linj, hr.size, hr.defs⟩

end
end
end Go.L

namespace Go.L
noncomputable section

def X.exit' : X → Exit
  | .normal => .normal
  | .exit id => .exit id
  | .ret => .ret
  | .goto l => .goto l

theorem lk_normS (l : List (Nat × List V)) (s : List (Nat × S)) : ∀ (ls : List Nat) (i : Nat), lk (normS l s ls) i = .bad ∨ lk (normS l s ls) i = keepS l (lk s i)
  | [], i => .inl rfl
  | j :: ls, i => by
    unfold normS
    rw [lk_cons]
    by_cases h : j = i
    · subst h; right; rw [if_pos rfl]
    · rw [if_neg h]; exact lk_normS l s ls i

theorem lkl_normL (l : List (Nat × List V)) : ∀ (ll : List Nat) (t : Nat), lkl (normL l ll) t = if t ∈ ll then lkl l t else none
  | [], t => rfl
  | j :: ll, t => by
    unfold normL
    have ih := lkl_normL l ll t
    split
    · rename_i cs hcs
      rw [lkl_cons, ih]
      by_cases h : j = t
      · subst h; simp [hcs]
      · rw [if_neg h]
        have : (t ∈ j :: ll) = (t ∈ ll) := by simp [Ne.symm h]
        simp only [this]
    · rename_i hcs
      rw [ih]
      by_cases h : j = t
      · subst h; simp [hcs]
      · have : (t ∈ j :: ll) = (t ∈ ll) := by simp [Ne.symm h]
        simp only [this]

theorem norm_sound {n : Nat} {ρ : Ren} {lo : Nat → Option Nat} {st : St} {a : Act} {w : World} (hr : RelA n ρ lo st a w) (o : Option (List Nat × List Nat)) :
    ∃ lo', RelA n ρ lo' (st.norm o) a w ∧ Step ρ lo w ρ lo' w := by
  cases o with
  | none => exact ⟨lo, hr, .refl _ _ _⟩
  | some p =>
    obtain ⟨ls, ll⟩ := p
    have hlo : ∀ (t b : Nat), (if t ∈ ll then lo t else none) = some b → t ∈ ll ∧ lo t = some b := by
      intro t b h
      split at h
      · rename_i h'; exact ⟨h', h⟩
      · cases h
    refine ⟨fun t => if t ∈ ll then lo t else none, ⟨hr.h, fun i => ?_, fun t cs ht => ?_, fun t b ht => ?_, fun t b ht => ?_, fun t t' b h1 h2 => ?_, hr.size, hr.defs⟩, ⟨.refl _, .refl _, Nat.le_refl _, fun b hb h1 h2 => ⟨rfl, h1, fun t ht => ?_, rfl⟩⟩⟩
    · show RelS ρ _ (lk (normS (normL st.l ll) st.s ls) i) _
      rcases lk_normS (normL st.l ll) st.s ls i with h | h
      · rw [h]; trivial
      · rw [h]
        have := hr.s i
        cases hx : lk st.s i with
        | v x => rw [hx] at this; exact this
        | p x => rw [hx] at this; exact this.1
        | bad => trivial
        | un => rw [hx] at this; exact this
        | lp t off =>
          rw [hx] at this
          obtain ⟨b, hb, hv⟩ := this
          unfold keepS
          simp only [lkl_normL]
          by_cases ht : t ∈ ll
          · rw [if_pos ht]
            obtain ⟨cs, hcs⟩ := hr.ldom t b hb
            rw [hcs]
            exact ⟨b, by simp [ht, hb], hv⟩
          · rw [if_neg ht]; trivial
    · replace ht : lkl (normL st.l ll) t = some cs := ht
      rw [lkl_normL] at ht
      split at ht
      · rename_i h
        obtain ⟨b, ob, k1, k2, k3⟩ := hr.l t cs ht
        exact ⟨b, ob, by simp [h, k1], k2, k3⟩
      · cases ht
    · obtain ⟨h, h'⟩ := hlo t b ht
      obtain ⟨cs, hcs⟩ := hr.ldom t b h'
      exact ⟨cs, by show lkl (normL st.l ll) t = _; rw [lkl_normL, if_pos h, hcs]⟩
    · exact hr.lout t b (hlo t b ht).2
    · exact hr.linj t t' b (hlo t b h1).2 (hlo t' b h2).2
    · exact h2 t (hlo t b ht).2

end
end Go.L

namespace Go.L
noncomputable section

section
variable {R : Type} {E : Env} {ρ : Ren} {lo : Nat → Option Nat} {a : Act} {w : World} {st : St}

theorem cell_run (hr : RelA E.n ρ lo st a w) {t : TypeId} {i : Nat} {K' : V → Option R} {r : R}
    (he : (match tyOf E.P 2 t with
      | .leaf l => l.dest (st.get (lk st.s i) 0) K'
      | .strt ls => rdLs ls (st.get (lk st.s i)) 0 fun cs => K' (.agg cs)
      | .blk n => (st.getN (lk st.s i) n).bind fun cs => K' (.agg cs)
      | _ => none) = some r) : ∃ v y, (do loadVar t (← asAddr (a.tmps.getD i undef)) : Sem Value).run E.P w = .ok y w ∧ RelV ρ v y ∧ K' v = some r := by
  obtain ⟨v, y, h1, h2, h3⟩ := load_run hr (hr.s i) he
  refine ⟨v, y, ?_, h2, h3⟩
  revert h1
  generalize a.tmps.getD i undef = x
  intro h1
  unfold Instr.loadAt Instr.sureAddr at h1
  unfold asAddr
  split at h1
  · exact h1
  · simp [stuck] at h1

theorem resVs_run (hr : RelA E.n ρ lo st a w) : ∀ (l : List ResultVar) {K : List V → Option R} {r : R}, resVs E st l K = some r →
    ∃ vs ys, (l.mapM (m := Sem) fun
      | .tmp t => pure (a.tmps.getD t undef)
      | .cell i t => do loadVar t (← asAddr (a.tmps.getD i undef))).run E.P w = .ok ys w ∧ vs.length = ys.length ∧
      (∀ (i : Nat) (v : V) (x : Value), vs[i]? = some v → ys[i]? = some x → RelV ρ v x) ∧ K vs = some r
  | [], K, r, h => ⟨[], [], by simp, rfl, by simp, h⟩
  | .tmp t :: l, K, r, h => by
    simp only [resVs] at h
    split at h
    · rename_i x hx
      obtain ⟨vs, ys, h1, h2, h3, h4⟩ := resVs_run hr l h
      refine ⟨x :: vs, a.tmps.getD t undef :: ys, ?_, by simp [h2], fun i v y hv hy => ?_, h4⟩
      · simp only [List.mapM_cons, pure_bind, Sem.run_bind, h1, Result.andThen_ok]
        rfl
      · cases i with
        | zero =>
          simp only [List.getElem?_cons_zero, Option.some.injEq] at hv hy
          subst hv; subst hy
          have := hr.s t
          rw [hx] at this
          exact this
        | succ i => simp at hv hy; exact h3 i v y hv hy
    · rename_i x hx
      obtain ⟨vs, ys, h1, h2, h3, h4⟩ := resVs_run hr l h
      refine ⟨x :: vs, a.tmps.getD t undef :: ys, ?_, by simp [h2], fun i v y hv hy => ?_, h4⟩
      · simp only [List.mapM_cons, pure_bind, Sem.run_bind, h1, Result.andThen_ok]
        rfl
      · cases i with
        | zero =>
          simp only [List.getElem?_cons_zero, Option.some.injEq] at hv hy
          subst hv; subst hy
          have := hr.s t
          rw [hx] at this
          exact this.1
        | succ i => simp at hv hy; exact h3 i v y hv hy
    · cases h
  | .cell k t :: l, K, r, h => by
    simp only [resVs] at h
    obtain ⟨x, y, g1, g2, g3⟩ := cell_run (K' := fun x => resVs E st l fun xs => K (x :: xs)) hr h
    obtain ⟨vs, ys, h1, h2, h3, h4⟩ := resVs_run hr l g3
    refine ⟨x :: vs, y :: ys, ?_, by simp [h2], fun i v z hv hz => ?_, h4⟩
    · simp only [List.mapM_cons]
      rw [Sem.run_bind, g1, Result.andThen_ok, Sem.run_bind, h1, Result.andThen_ok]
      rfl
    · cases i with
      | zero => simp at hv hz; subst hv; subst hz; exact g2
      | succ i => simp at hv hz; exact h3 i v z hv hz

theorem resV_run (hr : RelA E.n ρ lo st a w) {fn : Func} {v : V} {h : H} (he : resV E fn st = some (v, h)) :
    ∃ y, (results fn a.tmps).run E.P w = .ok y w ∧ RelV ρ v y ∧ h = st.h := by
  unfold resV at he
  obtain ⟨vs, ys, h1, h2, h3, h4⟩ := resVs_run hr _ he
  have hm : (fn.results.mapM (m := Sem) fun
      | .tmp t => pure (a.tmps.getD t undef)
      | .cell i t => do loadVar t (← asAddr (a.tmps.getD i undef))).run E.P w = .ok ys.toArray w := by
    rw [Array.mapM_eq_mapM_toList]
    rw [map_eq_pure_bind, Sem.run_bind, h1, Result.andThen_ok]
    rfl
  unfold results
  rw [Sem.run_bind]
  erw [hm]
  rw [Result.andThen_ok]
  split at h4
  · rename_i v'
    cases h4
    obtain ⟨y, rfl⟩ : ∃ y, ys = [y] := by
      match ys, h2 with
      | [y], _ => exact ⟨y, rfl⟩
    exact ⟨y, by simp, h3 0 v y rfl rfl, rfl⟩
  · rename_i hne
    cases h4
    refine ⟨.tuple ys.toArray, ?_, .tup _ _ (by simp [h2]) (by simpa using h3), rfl⟩
    have : ¬ ys.length = 1 := by
      intro h
      rw [h] at h2
      match vs, h2, hne with
      | [v], _, hne => exact hne v rfl
    rw [dif_neg (by simpa using this)]
    rfl

theorem lk_argSlots : ∀ (vs : List V) (k i : Nat), lk (argSlots k vs) i = if k ≤ i then (match vs[i - k]? with | some v => .v v | none => .bad) else .bad
  | [], k, i => by simp [argSlots, lk_nil]
  | v :: vs, k, i => by
    unfold argSlots
    rw [lk_cons, lk_argSlots vs (k + 1) i]
    by_cases h : k = i
    · subst h; simp
    · rw [if_neg h]
      by_cases h' : k ≤ i
      · have h2 : i - k = (i - (k + 1)) + 1 := by omega
        rw [if_pos h', if_pos (by omega), h2, List.getElem?_cons_succ]
      · rw [if_neg h', if_neg (by omega)]

end
end
end Go.L

namespace Go.L
noncomputable section

def Thru {α : Type} (F : ∀ R : Type, (α → Option R) → Option R) : Prop :=
  ∀ (R : Type) (K : α → Option R) (r : R), F R K = some r → ∃ v, K v = some r ∧ ∀ (R2 : Type) (K2 : α → Option R2), F R2 K2 = K2 v

theorem Thru.k {α : Type} (v : α) : Thru (fun R (K : α → Option R) => K v) := fun _ _ _ h => ⟨v, h, fun _ _ => rfl⟩
theorem Thru.no {α : Type} : Thru (fun R (_ : α → Option R) => (none : Option R)) := fun _ _ _ h => by cases h
theorem Thru.bd {α β : Type} (o : Option β) {F : β → ∀ R : Type, (α → Option R) → Option R} (h : ∀ b, o = some b → Thru (F b)) : Thru (fun R K => o.bind fun b => F b R K) := fun R K r he => by
  cases o with
  | none => cases he
  | some b => exact h b rfl R K r he
theorem Thru.ite {α : Type} {c : Prop} [Decidable c] {F G : ∀ R : Type, (α → Option R) → Option R} (hf : c → Thru F) (hg : ¬ c → Thru G) : Thru (fun R K => if c then F R K else G R K) := by
  by_cases h : c
  · simp only [if_pos h]; exact hf h
  · simp only [if_neg h]; exact hg h

theorem dest_thru (l : LK) (o : Option V) : Thru (fun R K => l.dest (R := R) o K) := by
  cases l <;> simp only [LK.dest] <;> first
    | exact Thru.bd _ fun b _ => Thru.k _
    | (cases o with
       | none => exact Thru.no
       | some v => exact Thru.k v)

theorem rdLs_thru : ∀ (ls : List LK) (get : Nat → Option V) (i : Nat), Thru (fun R K => rdLs (R := R) ls get i K)
  | [], _, _ => Thru.k _
  | l :: ls, get, i => fun R K r h => by
    simp only [rdLs] at h
    obtain ⟨v, h1, h2⟩ := dest_thru l (get i) _ _ _ h
    obtain ⟨vs, h3, h4⟩ := rdLs_thru ls get (i + 1) _ _ _ h1
    exact ⟨v :: vs, h3, fun R2 K2 => (h2 R2 _).trans (h4 R2 _)⟩

theorem tyDest1_thru (t : TY) (o : Option V) : Thru (fun R K => tyDest1 (R := R) t o K) := by
  cases t with
  | leaf l => exact dest_thru l o
  | strt ls =>
    refine Thru.bd _ fun vs _ => fun R K r h => ?_
    obtain ⟨cs, h1, h2⟩ := rdLs_thru ls _ 0 _ _ _ h
    exact ⟨.agg cs, h1, fun R2 K2 => h2 R2 _⟩
  | blk n => exact Thru.bd _ fun vs _ => Thru.k _
  | tup ts => exact Thru.no
  | no => exact Thru.no

theorem tupDest_thru : ∀ (ts : List TY) (get : Nat → Option V) (i : Nat), Thru (fun R K => tupDest (R := R) ts get i K)
  | [], _, _ => Thru.k _
  | t :: ts, get, i => fun R K r h => by
    simp only [tupDest] at h
    obtain ⟨v, h1, h2⟩ := tyDest1_thru t (get i) _ _ _ h
    obtain ⟨vs, h3, h4⟩ := tupDest_thru ts get (i + 1) _ _ _ h1
    exact ⟨v :: vs, h3, fun R2 K2 => (h2 R2 _).trans (h4 R2 _)⟩

theorem tyDest_thru (t : TY) (o : Option V) : Thru (fun R K => tyDest (R := R) t o K) := by
  unfold tyDest
  split
  · refine Thru.bd _ fun vs _ => fun R K r h => ?_
    obtain ⟨cs, h1, h2⟩ := tupDest_thru _ _ 0 _ _ _ h
    exact ⟨.tup cs, h1, fun R2 K2 => h2 R2 _⟩
  · exact tyDest1_thru t o

theorem cellsAs_thru (t : TY) (x : V) : Thru (fun R K => cellsAs (R := R) t x K) := by
  cases t with
  | leaf l => exact Thru.bd _ fun _ _ => Thru.k _
  | strt ls => cases x <;> first | exact Thru.ite (fun _ => Thru.k _) (fun _ => Thru.no) | exact Thru.no
  | blk n => cases x <;> first | exact Thru.ite (fun _ => Thru.k _) (fun _ => Thru.no) | exact Thru.no
  | tup ts => exact Thru.no
  | no => exact Thru.no

theorem intBin_thru (op : BinOp) (k : IntKind) (a b : Int) : Thru (fun R K => intBin (R := R) op k a b K) := by
  cases op <;> first | exact Thru.k _ | exact Thru.ite (fun _ => Thru.no) (fun _ => Thru.k _) | exact Thru.no

theorem shiftBin_thru (op : BinOp) (k : IntKind) (a b : Int) : Thru (fun R K => shiftBin (R := R) op k a b K) := by
  cases op <;> first | exact Thru.ite (fun _ => Thru.no) (fun _ => Thru.k _) | exact Thru.no

theorem strBin_thru (op : BinOp) (a b : ByteArray) : Thru (fun R K => strBin (R := R) op a b K) := by
  cases op <;> first | exact Thru.k _ | exact Thru.ite (fun _ => Thru.k _) (fun _ => Thru.no) | exact Thru.no

theorem floatBin_thru (op : BinOp) (k : FloatKind) (a b : Nat) : Thru (fun R K => floatBin (R := R) op k a b K) := by
  cases op <;> first | exact Thru.k _ | exact Thru.bd _ fun _ _ => Thru.k _ | exact Thru.no

theorem eqBin_thru (neg : Bool) (o : Option Bool) : Thru (fun R K => eqBin (R := R) neg o K) := Thru.bd _ fun _ _ => Thru.k _

theorem nilBin_thru (op : BinOp) (o : Option Bool) : Thru (fun R K => nilBin (R := R) op o K) := by
  cases op <;> first | exact eqBin_thru false o | exact eqBin_thru true o | exact Thru.no

theorem unS_thru (op : UnOp) (x : V) : Thru (fun R K => unS (R := R) op x K) := by
  unfold unS
  split <;> first | exact Thru.k _ | exact Thru.no

theorem convS_thru (P : Program) (s d : TypeId) (x : V) : Thru (fun R K => convS (R := R) P s d x K) := by
  unfold convS
  split <;> first | exact Thru.k _ | exact Thru.no | exact Thru.bd _ fun _ _ => Thru.k _

theorem strSub_thru (s : ByteArray) (lo hi : Int) : Thru (fun R K => strSub (R := R) s lo hi K) :=
  Thru.ite (fun _ => Thru.ite (fun _ => Thru.ite (fun _ => Thru.k _) (fun _ => Thru.no)) (fun _ => Thru.no)) (fun _ => Thru.no)

theorem min2_thru (m : Bool) (x y : V) : Thru (fun R K => min2 (R := R) m x y K) := by
  unfold min2
  split
  · refine Thru.ite (fun _ => ?_) (fun _ => Thru.no)
    cases m <;> exact Thru.k _
  · exact Thru.no

theorem binX_thru (E : Env) (op : BinOp) (t : TypeId) (x y : V) : Thru (fun R K => binX (R := R) E op t x y K) := by
  unfold binX
  split
  · exact shiftBin_thru _ _ _ _
  · exact shiftBin_thru _ _ _ _
  · exact Thru.ite (fun _ => intBin_thru _ _ _ _) (fun _ => Thru.no)
  · exact strBin_thru _ _ _
  · exact Thru.ite (fun _ => floatBin_thru _ _ _ _) (fun _ => Thru.no)
  · split <;> first | exact Thru.k _ | exact Thru.no
  · split <;> first | exact Thru.k _ | exact Thru.no
  · exact Thru.ite (fun _ => Thru.k _) (fun _ => Thru.no)
  · exact Thru.ite (fun _ => Thru.k _) (fun _ => Thru.no)
  · exact eqBin_thru _ _
  · exact eqBin_thru _ _
  · exact Thru.no

theorem binS_thru (E : Env) (op : BinOp) (t : TypeId) (x y : V) : Thru (fun R K => binS (R := R) E op t x y K) := by
  unfold binS
  split
  · split <;> first | exact nilBin_thru op _ | exact Thru.no
  · split <;> first | exact nilBin_thru op _ | exact Thru.no
  · split <;> first | exact nilBin_thru op _ | exact Thru.no
  · split <;> first | exact nilBin_thru op _ | exact Thru.no
  · exact binX_thru _ _ _ _ _

def S.le (x y : S) : Prop := x = .bad ∨ x = y

theorem S.le_refl (x : S) : S.le x x := .inr rfl

theorem S.le_v {x y : S} (h : S.le x y) {v : V} (hx : x = .v v) : y = .v v := by
  rcases h with h | h
  · rw [hx] at h; cases h
  · rw [← h, hx]

theorem S.le_trans {x y z : S} (h : S.le x y) (h' : S.le y z) : S.le x z := by
  rcases h with h | h
  · exact .inl h
  · rw [h]; exact h'

theorem adr_le {x y : S} (h : S.le x y) {p : V} (hp : adrOf x = some p) : adrOf y = some p := by
  rcases h with h | h
  · subst h; cases hp
  · subst h; exact hp

theorem buildS_thru (E : Env) (pl : Nat → Option (Nat × TypeId)) (st : St) : ∀ (ps : List (Nat × Operand)) (cs : List V),
    ∀ (R : Type) (K : List V → Option R) (r : R), buildS E pl st ps cs K = some r → ∃ v, K v = some r ∧
      ∀ (st2 : St), (∀ p ∈ ps, S.le (st.opnd p.2) (st2.opnd p.2)) → ∀ (R2 : Type) (K2 : List V → Option R2), buildS E pl st2 ps cs K2 = K2 v
  | [], cs, R, K, r, h => ⟨cs, h, fun _ _ _ _ => rfl⟩
  | (i, x) :: ps, cs, R, K, r, h => by
    simp only [buildS] at h
    split at h
    · rename_i off t v hp hx
      obtain ⟨xs, h1, h2⟩ := cellsAs_thru _ _ _ _ _ h
      split at h1
      · rename_i hlen
        obtain ⟨cs', h3, h4⟩ := buildS_thru E pl st ps _ R K r h1
        refine ⟨cs', h3, fun st2 hle R2 K2 => ?_⟩
        simp only [buildS, hp, adr_le (hle (i, x) (List.mem_cons_self ..)) hx]
        refine (h2 R2 _).trans ?_
        simp only [if_pos hlen]
        exact h4 st2 (fun p hp => hle p (List.mem_cons_of_mem _ hp)) R2 K2
      · cases h1
    · cases h

theorem argsK_thru (st : St) : ∀ (l : List Operand),
    ∀ (R : Type) (K : List V → Option R) (r : R), argsK st l K = some r → ∃ v, K v = some r ∧ (∀ (i : Nat) (x : Operand) (u : V), l[i]? = some x → v[i]? = some u → st.opnd x = .v u ∨ st.opnd x = .p u) ∧
      ∀ (st2 : St), (∀ x ∈ l, S.le (st.opnd x) (st2.opnd x)) → ∀ (R2 : Type) (K2 : List V → Option R2), argsK st2 l K2 = K2 v
  | [], R, K, r, h => ⟨[], h, by simp, fun _ _ _ _ => rfl⟩
  | x :: l, R, K, r, h => by
    simp only [argsK] at h
    split at h
    · rename_i v hx
      obtain ⟨vs, h3, h5, h4⟩ := argsK_thru st l R _ r h
      refine ⟨v :: vs, h3, fun i y u hy hu => ?_, fun st2 hle R2 K2 => ?_⟩
      · cases i with
        | zero => simp at hy hu; subst hy; subst hu; exact .inl hx
        | succ i => simp at hy hu; exact h5 i y u hy hu
      · simp only [argsK, S.le_v (hle x (List.mem_cons_self ..)) hx]
        rw [h4 st2 fun p hp => hle p (List.mem_cons_of_mem _ hp)]
    · rename_i v hx
      obtain ⟨vs, h3, h5, h4⟩ := argsK_thru st l R _ r h
      refine ⟨v :: vs, h3, fun i y u hy hu => ?_, fun st2 hle R2 K2 => ?_⟩
      · cases i with
        | zero => simp at hy hu; subst hy; subst hu; exact .inr hx
        | succ i => simp at hy hu; exact h5 i y u hy hu
      · have e : st2.opnd x = .p v := by
          rcases hle x (List.mem_cons_self ..) with h | h
          · rw [hx] at h; cases h
          · rw [← h]; exact hx
        simp only [argsK, e]
        rw [h4 st2 fun p hp => hle p (List.mem_cons_of_mem _ hp)]
    · cases h

theorem optInt_le {st st2 : St} {o : Option Operand} {d n : Int} (hle : ∀ x, o = some x → S.le (st.opnd x) (st2.opnd x)) (h : optInt st o d = some n) : optInt st2 o d = some n := by
  cases o with
  | none => exact h
  | some x =>
    simp only [optInt] at h ⊢
    split at h
    · rename_i k m hx
      rw [S.le_v (hle x rfl) hx]
      exact h
    · cases h

end
end Go.L

namespace Go.L
noncomputable section

def lpOf (E : Env) (x : Operand) : Option Nat :=
  match x with
  | .tmp t => E.lpT t
  | _ => none

def skey (E : Env) (o : Oper) : Option (Option Nat × Bool) :=
  match o.op with
  | .load _ a => match rlOf E o with
    | true => none
    | false => some (lpOf E a, false)
  | .store _ a _ => some (lpOf E a, true)
  | .alloc _ | .box _ _ => match ownOf E o with
    | true => some (o.dst, true)
    | false => some (none, true)
  | .buildSlice _ _ _ => match ownOf E o with
    | true => none
    | false => some (none, true)
  | .makeSlice _ _ _ => match fzOf E o with
    | true => none
    | false => some (none, true)
  | .makeMap _ _ | .mapUpdate _ _ _ _ | .mapEntry _ _ _ | .entryStore _ _ _ _ | .range _ _ | .next _ _ => some (none, true)
  | .lookup _ _ _ _ | .entry _ => some (none, false)
  | .convert s t _ => match strConv E.P s t with
    | none => none
    | some b => some (none, b)
  | .binOp _ t x y _ => match ptrCmp E.P t x y with
    | true => some (none, false)
    | false => none
  | .call c => match c.callee with
    | .value (.func f) => match E.cal f with
      | some (.pure _) | some (.ext _) => none
      | some (.ro _) => some (none, false)
      | _ => some (none, true)
    | .builtin .len => match (c.argTypes[0]?).bind E.P.underlying with
      | some (.map _ _) => some (none, false)
      | _ => none
    | .builtin .cap | .builtin .min | .builtin .max | .builtin .real | .builtin .imag | .builtin .complex => none
    | _ => some (none, true)
  | _ => none

def LpOk (E : Env) (st : St) : Prop := ∀ i, lpOk E i (lk st.s i) = true

structure Alike (E : Env) (o : Oper) (st st2 : St) : Prop where
  ops : ∀ x ∈ o.op.operands, S.le (st.opnd x) (st2.opnd x)
  h : ∀ b, skey E o = some (none, b) → st2.h = st.h
  l : ∀ t b, skey E o = some (some t, b) → lkl st2.l t = lkl st.l t

structure MemOk (k : Option (Option Nat × Bool)) (st st2 : St) (l : List (Nat × List V)) (h : H) (l2 : List (Nat × List V)) (h2 : H) : Prop where
  h1 : k = some (none, true) ∨ (h = st.h ∧ h2 = st2.h)
  l1 : ∀ t, k = some (some t, true) ∨ (lkl l t = lkl st.l t ∧ lkl l2 t = lkl st2.l t)
  he : k = some (none, true) → h2 = h
  le : ∀ t, k = some (some t, true) → lkl l2 t = lkl l t

def Shape {R : Type} (E : Env) (o : Oper) (st : St) (K : St → Option R) (r : R) : Prop :=
  ∃ x l h, fin E o st K x l h = some r ∧ ∀ st2, Alike E o st st2 → ∃ x2 l2 h2, S.le x x2 ∧ MemOk (skey E o) st st2 l h l2 h2 ∧
    ∀ (R2 : Type) (K2 : St → Option R2), evOp E o st2 K2 = fin E o st2 K2 x2 l2 h2

section
variable {R : Type} {E : Env} {o : Oper} {st : St} {K : St → Option R} {r : R}

theorem MemOk.same {st st2 : St} {k : Option (Option Nat × Bool)} (h : ∀ b, k = some (none, b) → st2.h = st.h) (l : ∀ t b, k = some (some t, b) → lkl st2.l t = lkl st.l t) :
    MemOk k st st2 st.l st.h st2.l st2.h := ⟨.inr ⟨rfl, rfl⟩, fun _ => .inr ⟨rfl, rfl⟩, h true, fun t => l t true⟩

theorem shape_v {x : S} (he : fin E o st K x st.l st.h = some r)
    (h : ∀ st2, Alike E o st st2 → ∃ x2, S.le x x2 ∧ ∀ (R2 : Type) (K2 : St → Option R2), evOp E o st2 K2 = fin E o st2 K2 x2 st2.l st2.h) : Shape E o st K r :=
  ⟨x, st.l, st.h, he, fun st2 hs => by
    obtain ⟨x2, h1, h2⟩ := h st2 hs
    exact ⟨x2, st2.l, st2.h, h1, .same hs.h hs.l, h2⟩⟩

theorem shape_h {x : S} {h : H} (hk : skey E o = some (none, true)) (he : fin E o st K x st.l h = some r)
    (hh : ∀ st2, Alike E o st st2 → st2.h = st.h → ∀ (R2 : Type) (K2 : St → Option R2), evOp E o st2 K2 = fin E o st2 K2 x st2.l h) : Shape E o st K r :=
  ⟨x, st.l, h, he, fun st2 hs => ⟨x, st2.l, h, .inr rfl, ⟨.inl hk, fun t => .inr ⟨rfl, rfl⟩, fun _ => rfl, fun t ht => by rw [hk] at ht; cases ht⟩, hh st2 hs (hs.h true hk)⟩⟩

theorem move_shape {x : Operand} (ho : o.op = .move x ∨ o.op = .assign x) (he : evOp E o st K = some r) : Shape E o st K r := by
  have e : ∀ (R2 : Type) (st2 : St) (K2 : St → Option R2), evOp E o st2 K2 = fin E o st2 K2 (st2.opnd x) st2.l st2.h := by
    intro R2 st2 K2
    unfold evOp
    rcases ho with ho | ho <;> simp only [ho]
  rw [e] at he
  refine shape_v he fun st2 hs => ⟨st2.opnd x, hs.ops x ?_, fun R2 K2 => e R2 st2 K2⟩
  rcases ho with ho | ho <;> simp [ho, Op.operands]

theorem pick_shape {c x y : Operand} (ho : o.op = .pick c x y) (he : evOp E o st K = some r) : Shape E o st K r := by
  have hc0 : c ∈ o.op.operands := by simp [ho, Op.operands]
  have hx0 : x ∈ o.op.operands := by simp [ho, Op.operands]
  have hy0 : y ∈ o.op.operands := by simp [ho, Op.operands]
  unfold evOp at he
  simp only [ho] at he
  split at he
  · rename_i t hc
    split at he
    · rename_i p q hp hq
      exact shape_v he fun st2 hs => ⟨_, .inr rfl, fun R2 K2 => by
        unfold evOp
        simp only [ho, S.le_v (hs.ops c hc0) hc, S.le_v (hs.ops x hx0) hp, S.le_v (hs.ops y hy0) hq]
        rfl⟩
    · rename_i hno
      refine shape_v he fun st2 hs => ?_
      have hc2 := S.le_v (hs.ops c hc0) hc
      by_cases hv : ∃ p q, st2.opnd x = .v (.bool p) ∧ st2.opnd y = .v (.bool q)
      · obtain ⟨p, q, hp, hq⟩ := hv
        refine ⟨.v (.bool (if t = true then p else q)), ?_, fun R2 K2 => by unfold evOp; simp only [ho, hc2, hp, hq]; rfl⟩
        cases t with
        | true => have := hs.ops x hx0; rw [hp] at this; simpa using this
        | false => have := hs.ops y hy0; rw [hq] at this; simpa using this
      · refine ⟨if t = true then st2.opnd x else st2.opnd y, ?_, fun R2 K2 => ?_⟩
        · cases t with
          | true => simpa using hs.ops x hx0
          | false => simpa using hs.ops y hy0
        · unfold evOp
          simp only [ho, hc2]
          split
          · rename_i p q hp hq
            exact absurd ⟨p, q, hp, hq⟩ hv
          · rfl
  · cases he

theorem newVar_shape {cs : List V} (hkey : skey E o = (match ownOf E o with | true => some (o.dst, true) | false => some (none, true)))
    (he : (match ownOf E o, o.dst with
      | true, some d => match lkl st.l d with
        | none => fin E o st K (.lp d 0) ((d, cs) :: st.l) st.h
        | some _ => none
      | _, _ => fin E o st K (.v (.ptr st.h.length 0 0)) st.l (st.h ++ [.cells 0 cs])) = some r)
    (hev : ∀ st2, Alike E o st st2 → ∀ (R2 : Type) (K2 : St → Option R2), evOp E o st2 K2 = (match ownOf E o, o.dst with
      | true, some d => match lkl st2.l d with
        | none => fin E o st2 K2 (.lp d 0) ((d, cs) :: st2.l) st2.h
        | some _ => none
      | _, _ => fin E o st2 K2 (.v (.ptr st2.h.length 0 0)) st2.l (st2.h ++ [.cells 0 cs]))) : Shape E o st K r := by
  cases hown : ownOf E o with
  | true =>
    obtain ⟨d, hd⟩ : ∃ d, o.dst = some d := by
      unfold ownOf at hown
      cases h : o.dst with
      | none => rw [h] at hown; cases hown
      | some d => exact ⟨d, rfl⟩
    rw [hown, hd] at hkey he hev
    simp only at hkey he hev
    split at he
    · rename_i hl
      refine ⟨_, _, _, he, fun st2 hs => ⟨.lp d 0, (d, cs) :: st2.l, st2.h, .inr rfl, ⟨.inr ⟨rfl, rfl⟩, fun t => ?_, fun h => (by rw [hkey] at h; cases h), fun t ht => ?_⟩, fun R2 K2 => ?_⟩⟩
      · by_cases h : d = t
        · subst h; exact .inl hkey
        · right
          rw [lkl_cons, lkl_cons, if_neg h, if_neg h]
          exact ⟨rfl, rfl⟩
      · rw [hkey] at ht; cases ht
        rw [lkl_cons, lkl_cons, if_pos rfl, if_pos rfl]
      · rw [hev st2 hs, hs.l d true hkey, hl]
    · cases he
  | false =>
    rw [hown] at hkey
    simp only [hown] at he hev
    exact shape_h hkey he fun st2 hs hh R2 K2 => by rw [hev st2 hs, hh]

theorem alloc_shape {t : TypeId} (ho : o.op = .alloc t) (he : evOp E o st K = some r) : Shape E o st K r := by
  unfold evOp at he
  simp only [ho] at he
  obtain ⟨cs, hz, he⟩ := Option.bind_eq_some_iff.1 he
  exact newVar_shape (by simp only [skey, ho]) he fun st2 hs R2 K2 => by
    unfold evOp
    simp only [ho, hz, Option.bind_some]
    rfl

theorem box_shape {t : TypeId} {x : Operand} (ho : o.op = .box t x) (he : evOp E o st K = some r) : Shape E o st K r := by
  unfold evOp at he
  simp only [ho] at he
  split at he
  · rename_i v hx
    obtain ⟨cs, he, hc⟩ := cellsAs_thru _ _ _ _ _ he
    exact newVar_shape (by simp only [skey, ho]) he fun st2 hs R2 K2 => by
      unfold evOp
      simp only [ho, S.le_v (hs.ops x (by simp [ho, Op.operands])) hx]
      exact hc R2 _
  · cases he

theorem build_shape {t : TypeId} {ps : Array (Nat × Operand)} (ho : o.op = .build t ps) (he : evOp E o st K = some r) : Shape E o st K r := by
  unfold evOp at he
  simp only [ho] at he
  split at he
  · rename_i hp
    obtain ⟨cs, hz, he⟩ := Option.bind_eq_some_iff.1 he
    have hmem : ∀ p ∈ ps.toList, p.2 ∈ o.op.operands := by
      intro p hp
      simp only [ho, Op.operands, List.mem_toArray, List.mem_map]
      exact ⟨p, hp, rfl⟩
    obtain ⟨v, he, hb⟩ := buildS_thru E (placeOf E.P t) st ps.toList cs _ _ _ he
    refine shape_v he fun st2 hs => ⟨_, .inr rfl, fun R2 K2 => ?_⟩
    unfold evOp
    simp only [ho, if_pos hp, hz, Option.bind_some]
    exact hb st2 (fun p hp => hs.ops _ (hmem p hp)) R2 _
  · cases he

theorem buildSlice_shape {t : TypeId} {len : Nat} {ps : Array (Nat × Operand)} (ho : o.op = .buildSlice t len ps) (he : evOp E o st K = some r) : Shape E o st K r := by
  unfold evOp at he
  simp only [ho] at he
  obtain ⟨e, h1, he⟩ := Option.bind_eq_some_iff.1 he
  obtain ⟨z, h2, he⟩ := Option.bind_eq_some_iff.1 he
  split at he
  case isFalse => cases he
  rename_i h3
  split at he
  case isTrue => cases he
  rename_i h4
  split at he
  case isFalse => cases he
  rename_i h5
  have hmem : ∀ p ∈ ps.toList, p.2 ∈ o.op.operands := by
    intro p hp
    simp only [ho, Op.operands, List.mem_toArray, List.mem_map]
    exact ⟨p, hp, rfl⟩
  obtain ⟨v, he, hb⟩ := buildS_thru E (fun i => some (i * E.P.cellsOf e, e)) st ps.toList _ _ _ _ he
  cases hown : ownOf E o with
  | true =>
    simp only [hown] at he
    refine shape_v he fun st2 hs => ⟨_, .inr rfl, fun R2 K2 => ?_⟩
    unfold evOp
    simp only [ho, if_pos h3, if_neg h4, if_pos h5, h1, h2, Option.bind_some, hown]
    exact hb st2 (fun p hp => hs.ops _ (hmem p hp)) R2 _
  | false =>
    simp only [hown] at he
    refine shape_h (by simp only [skey, ho, hown]) he fun st2 hs hh R2 K2 => ?_
    unfold evOp
    simp only [ho, if_pos h3, if_neg h4, if_pos h5, h1, h2, Option.bind_some, hown]
    rw [← hh]
    exact hb st2 (fun p hp => hs.ops _ (hmem p hp)) R2 _

theorem get_alike {st2 : St} {a : Operand} (hlp : LpOk E st) (hle : S.le (st.opnd a) (st2.opnd a)) (hbad : st.opnd a ≠ .bad)
    (hh : lpOf E a = none → st2.h = st.h) (hl : ∀ t, lpOf E a = some t → lkl st2.l t = lkl st.l t) :
    (∀ i, st2.get (st2.opnd a) i = st.get (st.opnd a) i) ∧ (∀ n, st2.getN (st2.opnd a) n = st.getN (st.opnd a) n) := by
  have e : st2.opnd a = st.opnd a := by
    rcases hle with h | h
    · exact absurd h hbad
    · exact h.symm
  rw [e]
  have hcase : (∃ t off, st.opnd a = .lp t off ∧ lpOf E a = some t) ∨ ((∀ t off, st.opnd a ≠ .lp t off) ∧ (st.opnd a = .un ∨ lpOf E a = none)) := by
    cases a with
    | tmp i =>
      have := hlp i
      show (∃ t off, lk st.s i = .lp t off ∧ E.lpT i = some t) ∨ ((∀ t off, lk st.s i ≠ .lp t off) ∧ (lk st.s i = .un ∨ E.lpT i = none))
      revert this
      cases hx : lk st.s i with
      | lp t off =>
        intro this
        simp only [lpOk] at this
        split at this
        · rename_i t' ht'
          have := Nat.eq_of_beq_eq_true this
          subst this
          exact .inl ⟨t, off, rfl, ht'⟩
        · cases this
      | un => intro _; exact .inr ⟨by simp, .inl rfl⟩
      | bad => exact absurd hx hbad
      | v x =>
        intro this
        simp only [lpOk] at this
        split at this
        · cases this
        · rename_i h; exact .inr ⟨by simp, .inr h⟩
      | p x =>
        intro this
        simp only [lpOk] at this
        split at this
        · cases this
        · rename_i h; exact .inr ⟨by simp, .inr h⟩
    | const v =>
      refine .inr ⟨?_, .inr rfl⟩
      simp only [St.opnd]
      split <;> simp
    | global g => exact absurd rfl hbad
    | func f => exact .inr ⟨by simp [St.opnd], .inr rfl⟩
  rcases hcase with ⟨t, off, h1, h2⟩ | ⟨h1, h2⟩
  · rw [h1]
    simp only [St.get, St.getN, hl t h2]
    exact ⟨fun _ => trivial, fun _ => trivial⟩
  · rcases h2 with h2 | h2
    · rw [h2]
      exact ⟨fun _ => rfl, fun _ => rfl⟩
    · have := hh h2
      cases hx : st.opnd a with
      | lp t off => exact absurd hx (h1 t off)
      | v x => simp only [St.get, St.getN, this]; exact ⟨fun _ => trivial, fun _ => trivial⟩
      | p x => simp only [St.get, St.getN, this]; exact ⟨fun _ => trivial, fun _ => trivial⟩
      | bad => exact absurd hx hbad
      | un => exact ⟨fun _ => rfl, fun _ => rfl⟩

theorem plOf_alike {x y : S} {p : V} (h : S.le x y) (hp : plOf x = some p) : plOf y = some p := by
  rcases h with h | h
  · rw [h] at hp; cases hp
  · rw [← h]; exact hp

theorem load_shape_ro {t : TypeId} {a : Operand} (hrl : rlOf E o = true) (ho : o.op = .load t a) (he : evOp E o st K = some r) : Shape E o st K r := by
  unfold evOp at he
  simp only [ho, hrl] at he
  split at he
  case h_2 => cases he
  rename_i p hp
  have main : ∀ st2, Alike E o st st2 → plOf (st2.opnd a) = some p := fun st2 hs => plOf_alike (hs.ops a (by simp [ho, Op.operands])) hp
  split at he
  · rename_i l hl
    obtain ⟨v, he, hv⟩ := dest_thru _ _ _ _ _ he
    refine shape_v he fun st2 hs => ⟨_, .inr rfl, fun R2 K2 => ?_⟩
    unfold evOp
    simp only [ho, hrl, hl, main st2 hs]
    exact hv R2 _
  · rename_i ls hl
    obtain ⟨v, he, hv⟩ := rdLs_thru _ _ _ _ _ _ he
    refine shape_v he fun st2 hs => ⟨_, .inr rfl, fun R2 K2 => ?_⟩
    unfold evOp
    simp only [ho, hrl, hl, main st2 hs]
    exact hv R2 _
  · cases he

theorem load_shape {t : TypeId} {a : Operand} (hlp : LpOk E st) (ho : o.op = .load t a) (he : evOp E o st K = some r) : Shape E o st K r := by
  cases hrl : rlOf E o with
  | true => exact load_shape_ro hrl ho he
  | false =>
  have hsk : skey E o = some (lpOf E a, false) := by simp only [skey, ho, hrl]
  have hbad : st.opnd a ≠ .bad := by
    intro hb
    unfold evOp at he
    simp only [ho, hrl, hb] at he
    split at he
    · rename_i l _
      obtain ⟨v, hv, _⟩ := dest_inv he
      simp [St.get] at hv
    · rename_i ls hls
      obtain ⟨vs, h1, h2, _⟩ := rdLs_inv he
      obtain ⟨_, _, c2⟩ := (tyOf_cases E.P 2 t).2.1 ls hls
      cases vs with
      | nil => simp at h1; omega
      | cons v vs => have := h2 0 v rfl; simp [St.get] at this
    · simp [St.getN] at he
    · cases he
  have main : ∀ st2, Alike E o st st2 → (∀ i, st2.get (st2.opnd a) i = st.get (st.opnd a) i) ∧ (∀ n, st2.getN (st2.opnd a) n = st.getN (st.opnd a) n) := fun st2 hs =>
    get_alike hlp (hs.ops a (by simp [ho, Op.operands])) hbad (fun h => hs.h false (by rw [hsk, h])) (fun t h => hs.l t false (by rw [hsk, h]))
  unfold evOp at he
  simp only [ho, hrl] at he
  split at he
  · rename_i l hl
    obtain ⟨v, he, hv⟩ := dest_thru _ _ _ _ _ he
    refine shape_v he fun st2 hs => ⟨_, .inr rfl, fun R2 K2 => ?_⟩
    unfold evOp
    simp only [ho, hrl, hl, (main st2 hs).1]
    exact hv R2 _
  · rename_i ls hl
    obtain ⟨v, he, hv⟩ := rdLs_thru _ _ _ _ _ _ he
    refine shape_v he fun st2 hs => ⟨_, .inr rfl, fun R2 K2 => ?_⟩
    unfold evOp
    simp only [ho, hrl, hl]
    rw [show st2.get (st2.opnd a) = st.get (st.opnd a) from funext (main st2 hs).1]
    exact hv R2 _
  · rename_i n hl
    obtain ⟨cs, hc, he⟩ := Option.bind_eq_some_iff.1 he
    refine shape_v he fun st2 hs => ⟨_, .inr rfl, fun R2 K2 => ?_⟩
    unfold evOp
    simp only [ho, hrl, hl, (main st2 hs).2, hc, Option.bind_some]
    rfl
  · cases he

theorem store_shape {t : TypeId} {a x : Operand} (hlp : LpOk E st) (ho : o.op = .store t a x) (he : evOp E o st K = some r) : Shape E o st K r := by
  have hsk : skey E o = some (lpOf E a, true) := by simp only [skey, ho]
  unfold evOp at he
  simp only [ho] at he
  split at he
  case h_2 => cases he
  rename_i v hx
  obtain ⟨xs, he, hc⟩ := cellsAs_thru _ _ _ _ _ he
  have hev : ∀ st2, Alike E o st st2 → ∀ (R2 : Type) (K2 : St → Option R2), evOp E o st2 K2 = st2.put (st2.opnd a) xs fun l h => fin E o st2 K2 .bad l h := by
    intro st2 hs R2 K2
    unfold evOp
    simp only [ho, S.le_v (hs.ops x (by simp [ho, Op.operands])) hx]
    exact hc R2 _
  have hle : ∀ st2, Alike E o st st2 → S.le (st.opnd a) (st2.opnd a) := fun st2 hs => hs.ops a (by simp [ho, Op.operands])
  have heap : ∀ p, (st.opnd a = .v p ∨ st.opnd a = .p p) → lpOf E a = none → ((wr st.h p xs).bind fun h => fin E o st K .bad st.l h) = some r → Shape E o st K r := by
    intro p hp hn he
    obtain ⟨h, hw, he⟩ := Option.bind_eq_some_iff.1 he
    refine shape_h (by rw [hsk, hn]) he fun st2 hs hh R2 K2 => ?_
    rw [hev st2 hs]
    have e : st2.opnd a = st.opnd a := by
      rcases hle st2 hs with h | h
      · rcases hp with hp | hp <;> (rw [hp] at h; cases h)
      · exact h.symm
    rw [e]
    rcases hp with hp | hp <;> (rw [hp]; simp only [St.put, hh, hw, Option.bind_some])
  have nolp : ∀ p, (st.opnd a = .v p ∨ st.opnd a = .p p) → lpOf E a = none := by
    intro p hp
    cases a with
    | tmp i =>
      have := hlp i
      replace hp : lk st.s i = .v p ∨ lk st.s i = .p p := hp
      show E.lpT i = none
      rcases hp with hp | hp <;> (rw [hp] at this; simp only [lpOk] at this; split at this <;> first | (cases this; done) | assumption)
    | const v => rfl
    | global g => rfl
    | func f => rfl
  cases hp : st.opnd a with
  | v p => rw [hp] at he; exact heap p (.inl hp) (nolp p (.inl hp)) he
  | p p => rw [hp] at he; exact heap p (.inr hp) (nolp p (.inr hp)) he
  | bad => rw [hp] at he; simp [St.put] at he
  | un => rw [hp] at he; simp [St.put] at he
  | lp t' off =>
    rw [hp] at he
    simp only [St.put] at he
    split at he
    case h_2 => cases he
    rename_i cs hcs
    split at he
    case isFalse => cases he
    rename_i hlen
    have hk : lpOf E a = some t' := by
      cases a with
      | tmp i =>
        have := hlp i
        replace hp : lk st.s i = .lp t' off := hp
        rw [hp] at this
        simp only [lpOk] at this
        split at this
        · rename_i t2 ht2
          have := Nat.eq_of_beq_eq_true this
          subst this
          exact ht2
        · cases this
      | const v => simp only [St.opnd] at hp; split at hp <;> cases hp
      | global g => cases hp
      | func f => cases hp
    rw [hk] at hsk
    refine ⟨_, _, _, he, fun st2 hs => ⟨.bad, (t', splice cs off xs) :: st2.l, st2.h, .inl rfl, ⟨.inr ⟨rfl, rfl⟩, fun t => ?_, fun h => (by rw [hsk] at h; cases h), fun t ht => ?_⟩, fun R2 K2 => ?_⟩⟩
    · by_cases h : t' = t
      · subst h; exact .inl hsk
      · right
        rw [lkl_cons, lkl_cons, if_neg h, if_neg h]
        exact ⟨rfl, rfl⟩
    · rw [hsk] at ht; cases ht
      rw [lkl_cons, lkl_cons, if_pos rfl, if_pos rfl]
    · rw [hev st2 hs]
      have e : st2.opnd a = .lp t' off := by
        rcases hle st2 hs with h | h
        · rw [hp] at h; cases h
        · rw [← h, hp]
      rw [e]
      simp only [St.put, hs.l t' true hsk, hcs, if_pos hlen]

end
end
end Go.L

namespace Go.L
noncomputable section

section
variable {R : Type} {E : Env} {o : Oper} {st : St} {K : St → Option R} {r : R}

theorem S.le_lp {x y : S} (h : S.le x y) {t off : Nat} (hx : x = .lp t off) : y = .lp t off := by
  rcases h with h | h
  · rw [hx] at h; cases h
  · rw [← h, hx]

theorem S.le_p {x y : S} (h : S.le x y) {v : V} (hx : x = .p v) : y = .p v := by
  rcases h with h | h
  · rw [hx] at h; cases h
  · rw [← h, hx]

theorem nilCheck_shape {x : Operand} (ho : o.op = .nilCheck x) (he : evOp E o st K = some r) : Shape E o st K r := by
  have hx0 : x ∈ o.op.operands := by simp [ho, Op.operands]
  unfold evOp at he
  simp only [ho] at he
  split at he
  · rename_i t off hx
    refine shape_v he fun st2 hs => ⟨_, .inr rfl, fun R2 K2 => ?_⟩
    unfold evOp
    simp only [ho, S.le_lp (hs.ops x hx0) hx]
  · rename_i p hx
    obtain ⟨u, hu, he⟩ := Option.bind_eq_some_iff.1 he
    refine shape_v he fun st2 hs => ⟨_, .inr rfl, fun R2 K2 => ?_⟩
    unfold evOp
    simp only [ho, S.le_v (hs.ops x hx0) hx, hu, Option.bind_some]
  · rename_i p hx
    refine shape_v he fun st2 hs => ⟨_, .inr rfl, fun R2 K2 => ?_⟩
    unfold evOp
    simp only [ho, S.le_p (hs.ops x hx0) hx]
  · cases he

theorem binOp_shape {op : BinOp} {t t' : TypeId} {x y : Operand} (ho : o.op = .binOp op t x y t') (he : evOp E o st K = some r) : Shape E o st K r := by
  have hx0 : x ∈ o.op.operands := by simp [ho, Op.operands]
  have hy0 : y ∈ o.op.operands := by simp [ho, Op.operands]
  unfold evOp at he
  simp only [ho] at he
  split at he
  · rename_i hpc
    split at he
    case h_2 => cases he
    rename_i p q hp hq
    have hk : skey E o = some (none, false) := by simp only [skey, ho, hpc]
    have hinv : ∃ z, finV E o st K z = some r ∧ ∀ (R2 : Type) (K2 : V → Option R2), nilBin op (ptrEq st.h p q) K2 = K2 z := by
      cases op <;> simp only [nilBin, eqBin] at he ⊢ <;> try cases he
      all_goals
        obtain ⟨b, hb, he⟩ := Option.bind_eq_some_iff.1 he
        exact ⟨_, he, fun R2 K2 => by rw [hb]; rfl⟩
    obtain ⟨z, he, hz⟩ := hinv
    refine shape_v he fun st2 hs => ⟨_, .inr rfl, fun R2 K2 => ?_⟩
    unfold evOp
    simp only [ho, hpc, adr_le (hs.ops x hx0) hp, adr_le (hs.ops y hy0) hq, hs.h false hk]
    refine (hz R2 _).trans ?_
    simp only [finV, hs.h false hk]
  rename_i hpc
  split at he
  · rename_i u v hx hy
    obtain ⟨z, he, hz⟩ := binS_thru _ _ _ _ _ _ _ _ he
    refine shape_v he fun st2 hs => ⟨_, .inr rfl, fun R2 K2 => ?_⟩
    unfold evOp
    simp only [ho, hpc, S.le_v (hs.ops x hx0) hx, S.le_v (hs.ops y hy0) hy]
    exact hz R2 _
  · cases he

theorem unOp_shape {op : UnOp} {t : TypeId} {x : Operand} (ho : o.op = .unOp op t x) (he : evOp E o st K = some r) : Shape E o st K r := by
  have hx0 : x ∈ o.op.operands := by simp [ho, Op.operands]
  unfold evOp at he
  simp only [ho] at he
  split at he
  · rename_i u hx
    obtain ⟨z, he, hz⟩ := unS_thru _ _ _ _ _ he
    refine shape_v he fun st2 hs => ⟨_, .inr rfl, fun R2 K2 => ?_⟩
    unfold evOp
    simp only [ho, S.le_v (hs.ops x hx0) hx]
    exact hz R2 _
  · cases he

theorem conv_shape {s t : TypeId} {x : Operand} (ho : o.op = .convert s t x) (he : evOp E o st K = some r) : Shape E o st K r := by
  have hx0 : x ∈ o.op.operands := by simp [ho, Op.operands]
  unfold evOp at he
  simp only [ho] at he
  cases hsc : strConv E.P s t with
  | none =>
    simp only [hsc] at he
    split at he
    · rename_i u hx
      obtain ⟨z, he, hz⟩ := convS_thru _ _ _ _ _ _ _ he
      refine shape_v he fun st2 hs => ⟨_, .inr rfl, fun R2 K2 => ?_⟩
      unfold evOp
      simp only [ho, hsc, S.le_v (hs.ops x hx0) hx]
      exact hz R2 _
    · cases he
  | some b =>
    have hk : skey E o = some (none, b) := by simp only [skey, ho, hsc]
    cases b with
    | false =>
      simp only [hsc] at he
      split at he
      case h_2 => cases he
      rename_i u hx
      obtain ⟨cs, h1, he⟩ := Option.bind_eq_some_iff.1 he
      obtain ⟨z, h2, he⟩ := Option.bind_eq_some_iff.1 he
      refine shape_v he fun st2 hs => ⟨_, .inr rfl, fun R2 K2 => ?_⟩
      unfold evOp
      simp only [ho, hsc, S.le_v (hs.ops x hx0) hx, hs.h false hk, h1, h2, Option.bind_some, finV]
    | true =>
      simp only [hsc] at he
      split at he
      case h_2 => cases he
      rename_i u hx
      obtain ⟨q, h1, he⟩ := Option.bind_eq_some_iff.1 he
      refine shape_h hk he fun st2 hs hh R2 K2 => ?_
      unfold evOp
      simp only [ho, hsc, S.le_v (hs.ops x hx0) hx, hh, h1, Option.bind_some]

theorem makeFunc_shape {f : FuncId} {first cap : Array Operand} (ho : o.op = .makeFunc (.func f) first cap) (he : evOp E o st K = some r) : Shape E o st K r := by
  unfold evOp at he
  simp only [ho] at he
  split at he
  · rename_i hf
    obtain ⟨vs, he, _, hv⟩ := argsK_thru _ _ _ _ _ he
    refine shape_v he fun st2 hs => ⟨_, .inr rfl, fun R2 K2 => ?_⟩
    unfold evOp
    simp only [ho, hf]
    exact hv st2 (fun x hx => hs.ops x (by simp only [ho, Op.operands, Array.mem_append]; exact .inr (by simpa using hx))) R2 _
  split at he
  · rename_i hf hc
    obtain ⟨vs, he, _, hv⟩ := argsK_thru _ _ _ _ _ he
    refine shape_v he fun st2 hs => ⟨_, .inr rfl, fun R2 K2 => ?_⟩
    unfold evOp
    simp only [ho, hc]
    exact hv st2 (fun x hx => hs.ops x (by simp only [ho, Op.operands, Array.mem_append]; exact .inl (by simpa using hx))) R2 _
  · cases he

theorem makeMap_shape {t : TypeId} (ho : o.op = .makeMap t none) (he : evOp E o st K = some r) : Shape E o st K r := by
  unfold evOp at he
  simp only [ho] at he
  refine shape_h (by simp only [skey, ho]) he fun st2 hs hh R2 K2 => ?_
  unfold evOp
  simp only [ho, hh]

theorem makeSlice_shape {t : TypeId} {x y : Operand} (ho : o.op = .makeSlice t x y) (he : evOp E o st K = some r) : Shape E o st K r := by
  have hx0 : x ∈ o.op.operands := by simp [ho, Op.operands]
  have hy0 : y ∈ o.op.operands := by simp [ho, Op.operands]
  unfold evOp at he
  simp only [ho] at he
  split at he
  case h_2 => cases he
  rename_i l c e hx hy hel
  obtain ⟨z, hz, he⟩ := Option.bind_eq_some_iff.1 he
  split at he
  case isTrue => cases he
  rename_i h1
  split at he
  case isFalse => cases he
  rename_i h2
  split at he
  case isFalse => cases he
  rename_i h3
  split at he
  case isFalse => cases he
  rename_i h4
  split at he
  case isFalse => cases he
  rename_i h5
  split at he
  case isFalse => cases he
  rename_i h6
  cases hfz : fzOf E o with
  | true =>
    simp only [hfz] at he
    split at he
    case isFalse => cases he
    rename_i h7
    refine shape_v he fun st2 hs => ⟨_, .inr rfl, fun R2 K2 => ?_⟩
    unfold evOp
    simp only [ho, S.le_v (hs.ops x hx0) hx, S.le_v (hs.ops y hy0) hy, hel, hz, Option.bind_some, if_neg h1, if_pos h2, if_pos h3, if_pos h4, if_pos h5, if_pos h6, hfz, if_pos h7]
    rfl
  | false =>
    simp only [hfz] at he
    cases hrs : rsOf E o with
    | none =>
      simp only [hrs] at he
      refine shape_h (by simp only [skey, ho, hfz]) he fun st2 hs hh R2 K2 => ?_
      unfold evOp
      simp only [ho, S.le_v (hs.ops x hx0) hx, S.le_v (hs.ops y hy0) hy, hel, hz, Option.bind_some, if_neg h1, if_pos h2, if_pos h3, if_pos h4, if_pos h5, if_pos h6, hfz, hrs, hh]
    | some d =>
      simp only [hrs] at he
      obtain ⟨h', hfl, he⟩ := Option.bind_eq_some_iff.1 he
      refine shape_h (by simp only [skey, ho, hfz]) he fun st2 hs hh R2 K2 => ?_
      unfold evOp
      simp only [ho, S.le_v (hs.ops x hx0) hx, S.le_v (hs.ops y hy0) hy, hel, hz, Option.bind_some, if_neg h1, if_pos h2, if_pos h3, if_pos h4, if_pos h5, if_pos h6, hfz, hrs, hh, hfl]

theorem slice_shape {t : TypeId} {x : Operand} {lo hi mx : Option Operand} (ho : o.op = .slice t x lo hi mx) (he : evOp E o st K = some r) : Shape E o st K r := by
  have hx0 : x ∈ o.op.operands := by simp [ho, Op.operands]
  have hl0 : ∀ y, lo = some y → y ∈ o.op.operands := by intro y hy; simp [ho, Op.operands, hy]
  have hh0 : ∀ y, hi = some y → y ∈ o.op.operands := by intro y hy; simp [ho, Op.operands, hy]
  have hm0 : ∀ y, mx = some y → y ∈ o.op.operands := by intro y hy; simp [ho, Op.operands, hy]
  unfold evOp at he
  simp only [ho] at he
  split at he
  · rename_i e hel
    split at he
    case isTrue => cases he
    rename_i h1
    split at he
    case h_2 => cases he
    rename_i v hx
    obtain ⟨n, hn, he⟩ := Option.bind_eq_some_iff.1 he
    obtain ⟨l, hl, he⟩ := Option.bind_eq_some_iff.1 he
    obtain ⟨u, hu, he⟩ := Option.bind_eq_some_iff.1 he
    cases mx with
    | none =>
      obtain ⟨w, hw, he⟩ := Option.bind_eq_some_iff.1 he
      refine shape_v he fun st2 hs => ⟨_, .inr rfl, fun R2 K2 => ?_⟩
      unfold evOp
      simp only [ho, hel, if_neg h1, S.le_v (hs.ops x hx0) hx, hn, Option.bind_some, optInt_le (fun y hy => hs.ops y (hl0 y hy)) hl, optInt_le (fun y hy => hs.ops y (hh0 y hy)) hu, hw]
      rfl
    | some m =>
      cases hi with
      | none => cases he
      | some i =>
        obtain ⟨mm, hmm, he⟩ := Option.bind_eq_some_iff.1 he
        obtain ⟨w, hw, he⟩ := Option.bind_eq_some_iff.1 he
        refine shape_v he fun st2 hs => ⟨_, .inr rfl, fun R2 K2 => ?_⟩
        unfold evOp
        simp only [ho, hel, if_neg h1, S.le_v (hs.ops x hx0) hx, hn, Option.bind_some, optInt_le (fun y hy => hs.ops y (hl0 y hy)) hl, optInt_le (fun y hy => hs.ops y (hh0 y hy)) hu,
          optInt_le (o := some m) (fun y hy => hs.ops y (hm0 y hy)) hmm, hw]
        rfl
  · rename_i hel
    split at he
    case h_2 => cases he
    rename_i s hx
    split at he
    case h_2 => cases he
    split at he
    case h_2 => cases he
    rename_i hu0
    obtain ⟨l, hl, he⟩ := Option.bind_eq_some_iff.1 he
    obtain ⟨u, hu, he⟩ := Option.bind_eq_some_iff.1 he
    obtain ⟨w, he, hw⟩ := strSub_thru _ _ _ _ _ _ he
    refine shape_v he fun st2 hs => ⟨_, .inr rfl, fun R2 K2 => ?_⟩
    unfold evOp
    simp only [ho, hel, S.le_v (hs.ops x hx0) hx, hu0, Option.bind_some, optInt_le (fun y hy => hs.ops y (hl0 y hy)) hl, optInt_le (fun y hy => hs.ops y (hh0 y hy)) hu]
    exact hw R2 _

theorem fieldAddr_shape {t : TypeId} {x : Operand} {i : Nat} (ho : o.op = .fieldAddr t x i) (he : evOp E o st K = some r) : Shape E o st K r := by
  have hx0 : x ∈ o.op.operands := by simp [ho, Op.operands]
  unfold evOp at he
  simp only [ho] at he
  split at he
  case h_2 => cases he
  rename_i fs hfs
  split at he
  case h_2 => cases he
  rename_i f hf
  split at he
  case isTrue => cases he
  rename_i h1
  split at he
  · rename_i t off hx
    refine shape_v he fun st2 hs => ⟨_, .inr rfl, fun R2 K2 => ?_⟩
    unfold evOp
    simp only [ho, hfs, hf, if_neg h1, S.le_lp (hs.ops x hx0) hx]
  · rename_i p hx
    obtain ⟨u, hu, he⟩ := Option.bind_eq_some_iff.1 he
    refine shape_v he fun st2 hs => ⟨_, .inr rfl, fun R2 K2 => ?_⟩
    unfold evOp
    simp only [ho, hfs, hf, if_neg h1, S.le_v (hs.ops x hx0) hx, hu, Option.bind_some]
  · rename_i p hx
    refine shape_v he fun st2 hs => ⟨_, .inr rfl, fun R2 K2 => ?_⟩
    unfold evOp
    simp only [ho, hfs, hf, if_neg h1, S.le_p (hs.ops x hx0) hx]
  · cases he

theorem field_shape {t : TypeId} {x : Operand} {i : Nat} (ho : o.op = .field t x i) (he : evOp E o st K = some r) : Shape E o st K r := by
  have hx0 : x ∈ o.op.operands := by simp [ho, Op.operands]
  unfold evOp at he
  simp only [ho] at he
  split at he
  case h_2 => cases he
  rename_i cs off ft hx hp
  split at he
  case h_2 => cases he
  rename_i fs hfs
  split at he
  · rename_i l hl
    obtain ⟨v, he, hv⟩ := dest_thru _ _ _ _ _ he
    refine shape_v he fun st2 hs => ⟨_, .inr rfl, fun R2 K2 => ?_⟩
    unfold evOp
    simp only [ho, hfs, hp, S.le_v (hs.ops x hx0) hx, hl]
    exact hv R2 _
  · rename_i ls hl
    split at he
    case isFalse => cases he
    rename_i h1
    obtain ⟨v, he, hv⟩ := rdLs_thru _ _ _ _ _ _ he
    refine shape_v he fun st2 hs => ⟨_, .inr rfl, fun R2 K2 => ?_⟩
    unfold evOp
    simp only [ho, hfs, hp, S.le_v (hs.ops x hx0) hx, hl, if_pos h1]
    exact hv R2 _
  · rename_i n hl
    split at he
    case isFalse => cases he
    rename_i h1
    refine shape_v he fun st2 hs => ⟨_, .inr rfl, fun R2 K2 => ?_⟩
    unfold evOp
    simp only [ho, hfs, hp, S.le_v (hs.ops x hx0) hx, hl, if_pos h1]
    rfl
  · cases he

theorem indexAddr_shape {t : TypeId} {x i : Operand} (ho : o.op = .indexAddr t x i) (he : evOp E o st K = some r) : Shape E o st K r := by
  have hx0 : x ∈ o.op.operands := by simp [ho, Op.operands]
  have hi0 : i ∈ o.op.operands := by simp [ho, Op.operands]
  unfold evOp at he
  simp only [ho] at he
  split at he
  case h_2 => cases he
  rename_i k n hi
  split at he
  · rename_i m e hu
    split at he
    · rename_i t off hx
      split at he
      case isFalse => cases he
      rename_i h1
      split at he
      case isFalse => cases he
      rename_i h2
      split at he
      case isFalse => cases he
      rename_i h3
      refine shape_v he fun st2 hs => ⟨_, .inr rfl, fun R2 K2 => ?_⟩
      unfold evOp
      simp only [ho, S.le_v (hs.ops i hi0) hi, hu, S.le_lp (hs.ops x hx0) hx, if_pos h1, if_pos h2, if_pos h3]
    · rename_i p hx
      obtain ⟨u, h1, he⟩ := Option.bind_eq_some_iff.1 he
      obtain ⟨q, h2, he⟩ := Option.bind_eq_some_iff.1 he
      refine shape_v he fun st2 hs => ⟨_, .inr rfl, fun R2 K2 => ?_⟩
      unfold evOp
      simp only [ho, S.le_v (hs.ops i hi0) hi, hu, S.le_v (hs.ops x hx0) hx, h1, h2, Option.bind_some]
    · rename_i p hx
      obtain ⟨q, h2, he⟩ := Option.bind_eq_some_iff.1 he
      refine shape_v he fun st2 hs => ⟨_, .inr rfl, fun R2 K2 => ?_⟩
      unfold evOp
      simp only [ho, S.le_v (hs.ops i hi0) hi, hu, S.le_p (hs.ops x hx0) hx, h2, Option.bind_some]
    · cases he
  · rename_i e hu
    split at he
    case isTrue => cases he
    rename_i h1
    split at he
    case h_2 => cases he
    rename_i s hx
    obtain ⟨q, h2, he⟩ := Option.bind_eq_some_iff.1 he
    refine shape_v he fun st2 hs => ⟨_, .inr rfl, fun R2 K2 => ?_⟩
    unfold evOp
    simp only [ho, S.le_v (hs.ops i hi0) hi, hu, S.le_v (hs.ops x hx0) hx, if_neg h1, h2, Option.bind_some]
  · cases he

theorem index_shape {t : TypeId} {x i : Operand} (ho : o.op = .index t x i) (he : evOp E o st K = some r) : Shape E o st K r := by
  have hx0 : x ∈ o.op.operands := by simp [ho, Op.operands]
  have hi0 : i ∈ o.op.operands := by simp [ho, Op.operands]
  unfold evOp at he
  simp only [ho] at he
  split at he
  · rename_i cs k n hx hi
    split at he
    case h_2 => cases he
    rename_i m e hu
    split at he
    case isFalse => cases he
    rename_i h1
    split at he
    case isFalse => cases he
    rename_i h2
    split at he
    case isFalse => cases he
    rename_i h3
    split at he
    · rename_i l hl
      obtain ⟨v, he, hv⟩ := dest_thru _ _ _ _ _ he
      refine shape_v he fun st2 hs => ⟨_, .inr rfl, fun R2 K2 => ?_⟩
      unfold evOp
      simp only [ho, S.le_v (hs.ops i hi0) hi, hu, S.le_v (hs.ops x hx0) hx, if_pos h1, if_pos h2, if_pos h3, hl]
      exact hv R2 _
    · rename_i ls hl
      split at he
      case isFalse => cases he
      rename_i h4
      obtain ⟨v, he, hv⟩ := rdLs_thru _ _ _ _ _ _ he
      refine shape_v he fun st2 hs => ⟨_, .inr rfl, fun R2 K2 => ?_⟩
      unfold evOp
      simp only [ho, S.le_v (hs.ops i hi0) hi, hu, S.le_v (hs.ops x hx0) hx, if_pos h1, if_pos h2, if_pos h3, hl, if_pos h4]
      exact hv R2 _
    · rename_i mm hl
      split at he
      case isFalse => cases he
      rename_i h4
      refine shape_v he fun st2 hs => ⟨_, .inr rfl, fun R2 K2 => ?_⟩
      unfold evOp
      simp only [ho, S.le_v (hs.ops i hi0) hi, hu, S.le_v (hs.ops x hx0) hx, if_pos h1, if_pos h2, if_pos h3, hl, if_pos h4]
      rfl
    · cases he
  · rename_i s k n hx hi
    split at he
    case h_2 => cases he
    rename_i hu
    split at he
    case isFalse => cases he
    rename_i h1
    obtain ⟨q, h2, he⟩ := Option.bind_eq_some_iff.1 he
    refine shape_v he fun st2 hs => ⟨_, .inr rfl, fun R2 K2 => ?_⟩
    unfold evOp
    simp only [ho, S.le_v (hs.ops i hi0) hi, hu, S.le_v (hs.ops x hx0) hx, if_pos h1, h2, Option.bind_some]
    rfl
  · cases he

theorem lookup_shape {t : TypeId} {x i : Operand} {ok : Bool} (ho : o.op = .lookup t x i ok) (he : evOp E o st K = some r) : Shape E o st K r := by
  have hx0 : x ∈ o.op.operands := by simp [ho, Op.operands]
  have hi0 : i ∈ o.op.operands := by simp [ho, Op.operands]
  have hk : skey E o = some (none, false) := by simp only [skey, ho]
  unfold evOp at he
  simp only [ho] at he
  split at he
  case h_2 => cases he
  rename_i m key kt et hx hi hu
  split at he
  case isFalse => cases he
  rename_i h1
  obtain ⟨es, h2, he⟩ := Option.bind_eq_some_iff.1 he
  obtain ⟨q, h3, he⟩ := Option.bind_eq_some_iff.1 he
  obtain ⟨z, h4, he⟩ := Option.bind_eq_some_iff.1 he
  obtain ⟨v, he, hv⟩ := tyDest1_thru _ _ _ _ _ he
  cases ok with
  | true =>
    refine shape_v he fun st2 hs => ⟨_, .inr rfl, fun R2 K2 => ?_⟩
    unfold evOp
    simp only [ho, S.le_v (hs.ops i hi0) hi, hu, S.le_v (hs.ops x hx0) hx, if_pos h1, hs.h false hk, h2, h3, h4, Option.bind_some]
    refine (hv R2 _).trans ?_
    simp only [finV, hs.h false hk]
  | false =>
    refine shape_v he fun st2 hs => ⟨_, .inr rfl, fun R2 K2 => ?_⟩
    unfold evOp
    simp only [ho, S.le_v (hs.ops i hi0) hi, hu, S.le_v (hs.ops x hx0) hx, if_pos h1, hs.h false hk, h2, h3, h4, Option.bind_some]
    refine (hv R2 _).trans ?_
    simp only [finV, hs.h false hk]

theorem mapUpdate_shape {t : TypeId} {m k v : Operand} (ho : o.op = .mapUpdate t m k v) (he : evOp E o st K = some r) : Shape E o st K r := by
  have hm0 : m ∈ o.op.operands := by simp [ho, Op.operands]
  have hk0 : k ∈ o.op.operands := by simp [ho, Op.operands]
  have hv0 : v ∈ o.op.operands := by simp [ho, Op.operands]
  unfold evOp at he
  simp only [ho] at he
  split at he
  case h_2 => cases he
  rename_i mm key x kt et hm hk hv hu
  split at he
  case isFalse => cases he
  rename_i h1
  split at he
  case h_3 => cases he
  all_goals
    rename_i l hl
    obtain ⟨h, h2, he⟩ := Option.bind_eq_some_iff.1 he
    refine shape_h (by simp only [skey, ho]) he fun st2 hs hh R2 K2 => ?_
    unfold evOp
    simp only [ho, S.le_v (hs.ops m hm0) hm, hu, S.le_v (hs.ops k hk0) hk, S.le_v (hs.ops v hv0) hv, if_pos h1, hl, hh, h2, Option.bind_some]

theorem mapEntry_shape {t : TypeId} {m k : Operand} (ho : o.op = .mapEntry t m k) (he : evOp E o st K = some r) : Shape E o st K r := by
  have hm0 : m ∈ o.op.operands := by simp [ho, Op.operands]
  have hk0 : k ∈ o.op.operands := by simp [ho, Op.operands]
  unfold evOp at he
  simp only [ho] at he
  split at he
  case h_2 => cases he
  rename_i mm key kt et hm hk hu
  split at he
  case isFalse => cases he
  rename_i h1
  split at he
  case h_3 => cases he
  all_goals
    rename_i l hl
    obtain ⟨z, hz, he⟩ := Option.bind_eq_some_iff.1 he
    obtain ⟨q, h2, he⟩ := Option.bind_eq_some_iff.1 he
    obtain ⟨v, he, hv⟩ := tyDest1_thru _ _ _ _ _ he
    refine shape_h (by simp only [skey, ho]) he fun st2 hs hh R2 K2 => ?_
    unfold evOp
    simp only [ho, S.le_v (hs.ops m hm0) hm, hu, S.le_v (hs.ops k hk0) hk, if_pos h1, hl, hz, hh, h2, Option.bind_some]
    rw [hl] at hv
    exact hv R2 _

theorem entryStore_shape {t : TypeId} {m s v : Operand} (ho : o.op = .entryStore t m s v) (he : evOp E o st K = some r) : Shape E o st K r := by
  have hm0 : m ∈ o.op.operands := by simp [ho, Op.operands]
  have hs0 : s ∈ o.op.operands := by simp [ho, Op.operands]
  have hv0 : v ∈ o.op.operands := by simp [ho, Op.operands]
  unfold evOp at he
  simp only [ho] at he
  split at he
  case h_2 => cases he
  rename_i mm ik n xv hm hs' hv
  obtain ⟨h, h2, he⟩ := Option.bind_eq_some_iff.1 he
  refine shape_h (by simp only [skey, ho]) he fun st2 hs hh R2 K2 => ?_
  unfold evOp
  simp only [ho, S.le_v (hs.ops m hm0) hm, S.le_v (hs.ops s hs0) hs', S.le_v (hs.ops v hv0) hv, hh, h2, Option.bind_some]

theorem range_shape {t : TypeId} {x : Operand} (ho : o.op = .range t x) (he : evOp E o st K = some r) : Shape E o st K r := by
  have hx0 : x ∈ o.op.operands := by simp [ho, Op.operands]
  unfold evOp at he
  simp only [ho] at he
  split at he
  case h_2 => cases he
  rename_i m kt et hx hu
  obtain ⟨ob, h2, he⟩ := Option.bind_eq_some_iff.1 he
  refine shape_h (by simp only [skey, ho]) he fun st2 hs hh R2 K2 => ?_
  unfold evOp
  simp only [ho, S.le_v (hs.ops x hx0) hx, hu, hh, h2, Option.bind_some]

theorem next_shape {x : Operand} (ho : o.op = .next x false) (he : evOp E o st K = some r) : Shape E o st K r := by
  have hx0 : x ∈ o.op.operands := by simp [ho, Op.operands]
  unfold evOp at he
  simp only [ho] at he
  split at he
  case h_2 => cases he
  rename_i p hx
  obtain ⟨q, h2, he⟩ := Option.bind_eq_some_iff.1 he
  split at he
  · rename_i hb
    refine shape_h (by simp only [skey, ho]) he fun st2 hs hh R2 K2 => ?_
    unfold evOp
    simp only [ho, S.le_v (hs.ops x hx0) hx, hh, h2, Option.bind_some, if_pos hb]
  · rename_i hb
    refine shape_h (by simp only [skey, ho]) he fun st2 hs hh R2 K2 => ?_
    unfold evOp
    simp only [ho, S.le_v (hs.ops x hx0) hx, hh, h2, Option.bind_some, if_neg hb]

theorem entry_shape {x : Operand} (ho : o.op = .entry x) (he : evOp E o st K = some r) : Shape E o st K r := by
  have hx0 : x ∈ o.op.operands := by simp [ho, Op.operands]
  have hk : skey E o = some (none, false) := by simp only [skey, ho]
  unfold evOp at he
  simp only [ho] at he
  split at he
  case h_2 => cases he
  rename_i p kt et hx hu
  obtain ⟨q, h2, he⟩ := Option.bind_eq_some_iff.1 he
  obtain ⟨k, he, hk1⟩ := tyDest1_thru _ _ _ _ _ he
  obtain ⟨v, he, hv1⟩ := tyDest1_thru _ _ _ _ _ he
  refine shape_v he fun st2 hs => ⟨_, .inr rfl, fun R2 K2 => ?_⟩
  unfold evOp
  simp only [ho, S.le_v (hs.ops x hx0) hx, hu, hs.h false hk, h2, Option.bind_some]
  refine ((hk1 R2 _).trans (hv1 R2 _)).trans ?_
  simp only [finV, hs.h false hk]

theorem extract_shape {x : Operand} {i : Nat} (ho : o.op = .extract x i) (he : evOp E o st K = some r) : Shape E o st K r := by
  have hx0 : x ∈ o.op.operands := by simp [ho, Op.operands]
  unfold evOp at he
  simp only [ho] at he
  split at he
  case h_2 => cases he
  rename_i vs hx
  split at he
  case h_2 => cases he
  rename_i v hv
  refine shape_v he fun st2 hs => ⟨_, .inr rfl, fun R2 K2 => ?_⟩
  unfold evOp
  simp only [ho, S.le_v (hs.ops x hx0) hx, hv]
  rfl

end
end
end Go.L

namespace Go.L
noncomputable section

section
variable {R : Type} {E : Env} {o : Oper} {st : St} {K : St → Option R} {r : R}

theorem shape_eq {v : V} (he : finV E o st K v = some r)
    (h : ∀ st2, Alike E o st st2 → ∀ (R2 : Type) (K2 : St → Option R2), evOp E o st2 K2 = finV E o st2 K2 v) : Shape E o st K r :=
  shape_v he fun st2 hs => ⟨.v v, .inr rfl, h st2 hs⟩

theorem finF_cases {es : Nat} {v : V} {h : H} (he : finF E o st K es v h = some r) :
    ∃ v' h', fin E o st K (.v v') st.l h' = some r ∧ ∀ (st2 : St) (R2 : Type) (K2 : St → Option R2), finF E o st2 K2 es v h = fin E o st2 K2 (.v v') st2.l h' := by
  unfold finF at he
  cases hf : fzOf E o with
  | true =>
    rw [hf] at he
    obtain ⟨q, hq, he⟩ := Option.bind_eq_some_iff.1 he
    exact ⟨q.1, q.2, he, fun st2 R2 K2 => by simp only [finF, hf, hq, Option.bind_some]⟩
  | false =>
    rw [hf] at he
    exact ⟨v, h, he, fun st2 R2 K2 => by simp only [finF, hf]⟩

theorem builtin_shape {c : Call} {b : Builtin} (ho : o.op = .call c) (hc : c.callee = .builtin b) (he : evOp E o st K = some r) : Shape E o st K r := by
  unfold evOp at he
  simp only [ho, hc] at he
  obtain ⟨vs, he, _, hv⟩ := argsK_thru _ _ _ _ _ he
  have hev : ∀ st2, Alike E o st st2 → ∀ (R2 : Type) (K2 : St → Option R2), evOp E o st2 K2 = evBuiltin E o b c.argTypes vs st2 K2 := by
    intro st2 hs R2 K2
    unfold evOp
    simp only [ho, hc]
    exact hv st2 (fun x hx => hs.ops x (by simp only [ho, Op.operands, Call.operands, Array.mem_append]; exact .inr (by simpa using hx))) R2 _
  unfold evBuiltin at he
  split at he
  · rename_i x
    split at he
    · rename_i hu
      split at he
      case h_2 => cases he
      refine shape_eq he fun st2 hs R2 K2 => ?_
      rw [hev st2 hs]
      simp only [evBuiltin, hu]
    · rename_i e hu
      obtain ⟨n, hn, he⟩ := Option.bind_eq_some_iff.1 he
      refine shape_eq he fun st2 hs R2 K2 => ?_
      rw [hev st2 hs]
      simp only [evBuiltin, hu, hn, Option.bind_some]
    · rename_i n e hu
      refine shape_eq he fun st2 hs R2 K2 => ?_
      rw [hev st2 hs]
      simp only [evBuiltin, hu]
    · rename_i kt et hu
      obtain ⟨es, hn, he⟩ := Option.bind_eq_some_iff.1 he
      have hk : skey E o = some (none, false) := by simp only [skey, ho, hc, hu]
      refine shape_eq he fun st2 hs R2 K2 => ?_
      rw [hev st2 hs]
      simp only [evBuiltin, hu]
      rw [hs.h false hk, hn]
      rfl
    · cases he
  · rename_i s x
    have hk : skey E o = some (none, true) := by simp only [skey, ho, hc]
    split at he
    case h_3 => cases he
    case h_2 =>
      rename_i e h1 h2
      split at he
      case h_2 => cases he
      rename_i t
      split at he
      case isFalse => cases he
      rename_i h3
      split at he
      case isFalse => cases he
      rename_i h5
      split at he
      case isFalse => cases he
      rename_i h6
      obtain ⟨q, h8, he⟩ := Option.bind_eq_some_iff.1 he
      obtain ⟨v', h', he, hf⟩ := finF_cases he
      refine shape_h hk he fun st2 hs hh R2 K2 => ?_
      rw [hev st2 hs]
      simp only [evBuiltin, h1, h2, if_pos h3, if_pos h5, if_pos h6, hh, h8, Option.bind_some]
      exact hf st2 R2 K2
    rename_i e e' h1 h2
    split at he
    case isFalse => cases he
    rename_i h3
    split at he
    case isTrue => cases he
    rename_i h4
    split at he
    case isFalse => cases he
    rename_i h5
    split at he
    case isFalse => cases he
    rename_i h6
    obtain ⟨cs, h7, he⟩ := Option.bind_eq_some_iff.1 he
    obtain ⟨q, h8, he⟩ := Option.bind_eq_some_iff.1 he
    obtain ⟨v', h', he, hf⟩ := finF_cases he
    refine shape_h hk he fun st2 hs hh R2 K2 => ?_
    rw [hev st2 hs]
    simp only [evBuiltin, h1, h2, if_pos h3, if_neg h4, if_pos h5, if_pos h6, hh, h7, h8, Option.bind_some]
    exact hf st2 R2 K2
  · rename_i m key
    have hk : skey E o = some (none, true) := by simp only [skey, ho, hc]
    split at he
    case h_2 => cases he
    rename_i kt et hu
    split at he
    case isFalse => cases he
    rename_i h1
    obtain ⟨h', h2, he⟩ := Option.bind_eq_some_iff.1 he
    refine shape_h hk he fun st2 hs hh R2 K2 => ?_
    rw [hev st2 hs]
    simp only [evBuiltin, hu, if_pos h1, hh, h2, Option.bind_some]
  · rename_i s
    have hk : skey E o = some (none, true) := by simp only [skey, ho, hc]
    split at he
    case h_2 => cases he
    rename_i e h1
    split at he
    case isTrue => cases he
    rename_i h2
    obtain ⟨z, h3, he⟩ := Option.bind_eq_some_iff.1 he
    split at he
    case isFalse => cases he
    rename_i h4
    obtain ⟨h', h5, he⟩ := Option.bind_eq_some_iff.1 he
    refine shape_h hk he fun st2 hs hh R2 K2 => ?_
    rw [hev st2 hs]
    simp only [evBuiltin, h1, if_neg h2, h3, Option.bind_some, if_pos h4, hh, h5]
  · rename_i d s
    have hk : skey E o = some (none, true) := by simp only [skey, ho, hc]
    split at he
    case h_2 => cases he
    rename_i e h1
    split at he
    case isTrue => cases he
    rename_i h2
    obtain ⟨cs, h3, he⟩ := Option.bind_eq_some_iff.1 he
    split at he
    case isFalse => cases he
    rename_i h4
    obtain ⟨h', h5, he⟩ := Option.bind_eq_some_iff.1 he
    refine shape_h hk he fun st2 hs hh R2 K2 => ?_
    rw [hev st2 hs]
    simp only [evBuiltin, h1, if_neg h2, hh, h3, Option.bind_some, if_pos h4, h5]
  · rename_i s
    split at he
    case h_2 => cases he
    rename_i e h1
    obtain ⟨n, h2, he⟩ := Option.bind_eq_some_iff.1 he
    refine shape_eq he fun st2 hs R2 K2 => ?_
    rw [hev st2 hs]
    simp only [evBuiltin, h1, h2, Option.bind_some]
  · obtain ⟨v, he, hm⟩ := min2_thru _ _ _ _ _ _ he
    refine shape_eq he fun st2 hs R2 K2 => ?_
    rw [hev st2 hs]
    exact hm R2 _
  · obtain ⟨v, he, hm⟩ := min2_thru _ _ _ _ _ _ he
    refine shape_eq he fun st2 hs R2 K2 => ?_
    rw [hev st2 hs]
    exact hm R2 _
  · refine shape_eq he fun st2 hs R2 K2 => ?_
    rw [hev st2 hs]
    rfl
  · refine shape_eq he fun st2 hs R2 K2 => ?_
    rw [hev st2 hs]
    rfl
  · split at he
    case isFalse => cases he
    rename_i h1
    refine shape_eq he fun st2 hs R2 K2 => ?_
    rw [hev st2 hs]
    simp only [evBuiltin, if_pos h1]
  · cases he

theorem callK_shape {f : FuncId} {vs : List V} (hro : ∀ F, E.cal f = some (.ro F) → ∃ b, skey E o = some (none, b)) (hfull : ∀ F, E.cal f = some (.full F) → skey E o = some (none, true))
    (hgro : ∀ F, E.cal f = some (.gro F) → skey E o = some (none, true)) (hown : ∀ F, E.cal f = some (.own F) → skey E o = some (none, true))
    (he : callK E o st K f vs = some r) (hev : ∀ st2, Alike E o st st2 → ∀ (R2 : Type) (K2 : St → Option R2), evOp E o st2 K2 = callK E o st2 K2 f vs) : Shape E o st K r := by
  unfold callK at he
  split at he
  · rename_i F hF
    obtain ⟨v, h1, he⟩ := Option.bind_eq_some_iff.1 he
    obtain ⟨u, he, hu⟩ := tyDest_thru _ _ _ _ _ he
    refine shape_eq he fun st2 hs R2 K2 => ?_
    rw [hev st2 hs]
    unfold callK
    simp only [hF, h1, Option.bind_some]
    exact hu R2 _
  · rename_i F hF
    obtain ⟨v, h1, he⟩ := Option.bind_eq_some_iff.1 he
    obtain ⟨u, he, hu⟩ := tyDest_thru _ _ _ _ _ he
    refine shape_eq he fun st2 hs R2 K2 => ?_
    rw [hev st2 hs]
    unfold callK
    simp only [hF, h1, Option.bind_some]
    exact hu R2 _
  · rename_i F hF
    have hh : ∀ st2, Alike E o st st2 → st2.h = st.h := by
      intro st2 hs
      obtain ⟨b, hb⟩ := hro F hF
      exact hs.h b hb
    obtain ⟨v, h1, he⟩ := Option.bind_eq_some_iff.1 he
    obtain ⟨u, he, hu⟩ := tyDest_thru _ _ _ _ _ he
    refine shape_eq he fun st2 hs R2 K2 => ?_
    rw [hev st2 hs]
    unfold callK
    simp only [hF]
    rw [show F.F vs st2.h = some v from by rw [hh st2 hs]; exact h1, Option.bind_some]
    exact hu R2 _
  · rename_i F hF
    have hk := hfull F hF
    obtain ⟨q, h1, he⟩ := Option.bind_eq_some_iff.1 he
    obtain ⟨u, he, hu⟩ := tyDest_thru _ _ _ _ _ he
    have hev2 : ∀ st2, Alike E o st st2 → ∀ (R2 : Type) (K2 : St → Option R2), evOp E o st2 K2 = (match fzOf E o, elemOf E.P o.type with
      | true, some e => if E.P.cellsOf e ≠ 0 then finF E o st2 K2 (E.P.cellsOf e) u (F.out q).2 else none
      | true, none => none
      | false, _ => fin E o st2 K2 (.v u) st2.l (F.out q).2) := by
      intro st2 hs R2 K2
      rw [hev st2 hs]
      unfold callK
      simp only [hF, hs.h true hk, h1, Option.bind_some]
      exact hu R2 _
    split at he
    · rename_i e hfz hel
      split at he
      case isFalse => cases he
      rename_i h2
      obtain ⟨v', h', he, hf⟩ := finF_cases he
      refine shape_h hk he fun st2 hs hh R2 K2 => ?_
      rw [hev2 st2 hs]
      simp only [hfz, hel, if_pos h2]
      exact hf st2 R2 K2
    · cases he
    · rename_i hfz
      refine shape_h hk he fun st2 hs hh R2 K2 => ?_
      rw [hev2 st2 hs]
      simp only [hfz]
  · rename_i F hF
    have hk := hgro F hF
    obtain ⟨q, h1, he⟩ := Option.bind_eq_some_iff.1 he
    obtain ⟨u, he, hu⟩ := tyDest_thru _ _ _ _ _ he
    have hev2 : ∀ st2, Alike E o st st2 → ∀ (R2 : Type) (K2 : St → Option R2), evOp E o st2 K2 = (match fzOf E o, elemOf E.P o.type with
      | true, some e => if E.P.cellsOf e ≠ 0 then finF E o st2 K2 (E.P.cellsOf e) u (F.out q).2 else none
      | true, none => none
      | false, _ => fin E o st2 K2 (.v u) st2.l (F.out q).2) := by
      intro st2 hs R2 K2
      rw [hev st2 hs]
      unfold callK
      simp only [hF, hs.h true hk, h1, Option.bind_some]
      exact hu R2 _
    split at he
    · rename_i e hfz hel
      split at he
      case isFalse => cases he
      rename_i h2
      obtain ⟨v', h', he, hf⟩ := finF_cases he
      refine shape_h hk he fun st2 hs hh R2 K2 => ?_
      rw [hev2 st2 hs]
      simp only [hfz, hel, if_pos h2]
      exact hf st2 R2 K2
    · cases he
    · rename_i hfz
      refine shape_h hk he fun st2 hs hh R2 K2 => ?_
      rw [hev2 st2 hs]
      simp only [hfz]
  · rename_i F hF
    have hk := hown F hF
    obtain ⟨q, h1, he⟩ := Option.bind_eq_some_iff.1 he
    obtain ⟨u, he, hu⟩ := tyDest_thru _ _ _ _ _ he
    have hev2 : ∀ st2, Alike E o st st2 → ∀ (R2 : Type) (K2 : St → Option R2), evOp E o st2 K2 = (match fzOf E o, elemOf E.P o.type with
      | true, some e => if E.P.cellsOf e ≠ 0 then finF E o st2 K2 (E.P.cellsOf e) u (F.out q).2 else none
      | true, none => none
      | false, _ => fin E o st2 K2 (.v u) st2.l (F.out q).2) := by
      intro st2 hs R2 K2
      rw [hev st2 hs]
      unfold callK
      simp only [hF, hs.h true hk, h1, Option.bind_some]
      exact hu R2 _
    split at he
    · rename_i e hfz hel
      split at he
      case isFalse => cases he
      rename_i h2
      obtain ⟨v', h', he, hf⟩ := finF_cases he
      refine shape_h hk he fun st2 hs hh R2 K2 => ?_
      rw [hev2 st2 hs]
      simp only [hfz, hel, if_pos h2]
      exact hf st2 R2 K2
    · cases he
    · rename_i hfz
      refine shape_h hk he fun st2 hs hh R2 K2 => ?_
      rw [hev2 st2 hs]
      simp only [hfz]
  · cases he

theorem call_shape {c : Call} (ho : o.op = .call c) (he : evOp E o st K = some r) : Shape E o st K r := by
  have hargs : ∀ x ∈ c.args.toList, x ∈ o.op.operands := fun x hx => by
    simp only [ho, Op.operands, Call.operands, Array.mem_append]; exact .inr (by simpa using hx)
  cases hc : c.callee with
  | builtin b => exact builtin_shape ho hc he
  | invoke x m => unfold evOp at he; simp only [ho, hc] at he; cases he
  | value f =>
    cases f with
    | const v => unfold evOp at he; simp only [ho, hc] at he; cases he
    | global g => unfold evOp at he; simp only [ho, hc] at he; cases he
    | func f =>
      unfold evOp at he
      simp only [ho, hc] at he
      obtain ⟨vs, he, _, hv⟩ := argsK_thru _ _ _ _ _ he
      refine callK_shape (fun F hF => ⟨false, by simp only [skey, ho, hc, hF]⟩) (fun F hF => by simp only [skey, ho, hc, hF]) (fun F hF => by simp only [skey, ho, hc, hF]) (fun F hF => by simp only [skey, ho, hc, hF]) he fun st2 hs R2 K2 => ?_
      unfold evOp
      simp only [ho, hc]
      exact hv st2 (fun x hx => hs.ops x (hargs x hx)) R2 _
    | tmp t =>
      have hk : skey E o = some (none, true) := by simp only [skey, ho, hc]
      unfold evOp at he
      simp only [ho, hc] at he
      have hop : ∀ {st2}, Alike E o st st2 → S.le (lk st.s t) (lk st2.s t) := fun hs =>
        hs.ops (.tmp t) (by simp only [ho, Op.operands, Call.operands, hc, Array.mem_append]; exact .inl (by simp))
      split at he
      · rename_i F hF
        split at he
        case h_2 => cases he
        rename_i x hp
        obtain ⟨vs, he, _, hv⟩ := argsK_thru _ _ _ _ _ he
        obtain ⟨q, h1, he⟩ := Option.bind_eq_some_iff.1 he
        obtain ⟨u, he, hu⟩ := tyDest_thru _ _ _ _ _ he
        refine shape_h hk he fun st2 hs hh R2 K2 => ?_
        have hp2 : lk st2.s t = .v x := S.le_v (hop hs) hp
        unfold evOp
        simp only [ho, hc, hF, hp2]
        refine (hv st2 (fun x hx => hs.ops x (hargs x hx)) R2 _).trans ?_
        simp only [hs.h true hk, h1, Option.bind_some]
        exact hu R2 _
      · rename_i hnd
        split at he
        case h_2 => cases he
        rename_i f cap hp
        obtain ⟨vs, he, _, hv⟩ := argsK_thru _ _ _ _ _ he
        refine callK_shape (fun F hF => ⟨true, hk⟩) (fun F hF => hk) (fun F hF => hk) (fun F hF => hk) he fun st2 hs R2 K2 => ?_
        have hp2 : lk st2.s t = .v (.fn f cap) := by
          have := hs.ops (.tmp t) (by simp only [ho, Op.operands, Call.operands, hc, Array.mem_append]; exact .inl (by simp))
          exact S.le_v this hp
        unfold evOp
        simp only [ho, hc, hp2]
        exact hv st2 (fun x hx => hs.ops x (hargs x hx)) R2 _

theorem evOp_shape (hlp : LpOk E st) (he : evOp E o st K = some r) : Shape E o st K r := by
  cases ho : o.op with
  | move x => exact move_shape (.inl ho) he
  | assign x => exact move_shape (.inr ho) he
  | pick c x y => exact pick_shape ho he
  | alloc t => exact alloc_shape ho he
  | box t x => exact box_shape ho he
  | build t ps => exact build_shape ho he
  | buildSlice t l ps => exact buildSlice_shape ho he
  | load t x => exact load_shape hlp ho he
  | store t x y => exact store_shape hlp ho he
  | nilCheck x => exact nilCheck_shape ho he
  | binOp op t x y t' => exact binOp_shape ho he
  | unOp op t x => exact unOp_shape ho he
  | convert s t x => exact conv_shape ho he
  | makeFunc f fs cs =>
    cases f with
    | func f => exact makeFunc_shape ho he
    | _ => unfold evOp at he; simp only [ho] at he; cases he
  | makeMap t x =>
    cases x with
    | none => exact makeMap_shape ho he
    | some x => unfold evOp at he; simp only [ho] at he; cases he
  | makeSlice t l c => exact makeSlice_shape ho he
  | slice t x l u m => exact slice_shape ho he
  | fieldAddr t x i => exact fieldAddr_shape ho he
  | field t x i => exact field_shape ho he
  | indexAddr t x i => exact indexAddr_shape ho he
  | index t x i => exact index_shape ho he
  | lookup t x i ok => exact lookup_shape ho he
  | mapUpdate t m k v => exact mapUpdate_shape ho he
  | mapEntry t m k => exact mapEntry_shape ho he
  | entryStore t m s v => exact entryStore_shape ho he
  | entry it => exact entry_shape ho he
  | range t x => exact range_shape ho he
  | next it b =>
    cases b with
    | false => exact next_shape ho he
    | true => unfold evOp at he; simp only [ho] at he; cases he
  | extract x i => exact extract_shape ho he
  | call c => exact call_shape ho he
  | _ => unfold evOp at he; simp only [ho] at he; cases he

end
end
end Go.L

