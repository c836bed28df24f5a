/- Operations: places of elements, parts, slices, new memory. -/
import Derived.Test.YtkhnngghmlpbeaaGreatL8
namespace Go.L
noncomputable section

section ops
variable {R : Type} {E : Env} {o : Oper} {st : St} {K : St → Option R} {r : R} {ρ : Ren} {lo : Nat → Option Nat} {a : Act} {w : World}
  {next : Act → World → Prop} {Q : Exit → Act → World → Prop}

theorem run_sizeOf_ne {P : Program} {t : TypeId} (h : P.cellsOf t ≠ 0) (w : World) : (sizeOf t).run P w = .ok (P.cellsOf t) w := by
  obtain ⟨i, hi⟩ := info_of_cells h
  exact run_sizeOf hi w

theorem sidx_rel {s q : V} {y : Value} (hs : RelV ρ s y) {i : Int} {es : Nat} (hq : sidx s i es = some q) :
    ∃ ad len cap, y = .slice (some ad) len cap ∧ 0 ≤ i ∧ i < len ∧ RelV ρ q (.pointer (some (ad.add (i.toNat * es)))) := by
  unfold sidx at hq
  split at hq
  · rename_i id ver off len es' cap
    split at hq
    · rename_i he
      subst he
      split at hq
      · rename_i h0
        split at hq
        · rename_i hlt
          cases hq
          cases hs with
          | sl _ _ _ _ _ _ ad rc h1 h2 h3 h4 h5 =>
            refine ⟨ad, len, rc, rfl, h0, hlt, .ptr _ _ _ _ h1 h2 fun g hv hg => ?_⟩
            rw [(h5 g hv hg (by omega)).1, add_none, Nat.add_assoc]
        · cases hq
      · cases hq
    · cases hq
  · rename_i es' xs
    split at hq
    · rename_i he
      subst he
      split at hq
      · rename_i h0
        simp only [Option.map_eq_some_iff] at hq
        obtain ⟨v, hv, rfl⟩ := hq
        have hlt : i.toNat < xs.length := (List.getElem?_eq_some_iff.1 hv).1
        cases hs with
        | rs0 _ _ _ _ => simp at hlt
        | rs _ _ b off c e fr rc h0' h1 h2 h3 h4 h5 =>
          have hm : (i.toNat + 1) * es' ≤ xs.length * es' := Nat.mul_le_mul_right _ hlt
          rw [Nat.add_mul, Nat.one_mul] at hm
          have hvl := h3 v (List.mem_of_getElem? hv)
          refine ⟨_, _, _, rfl, h0, by omega, ?_⟩
          rw [add_none]
          refine .rptr _ b _ c e fr h1 (fun j hj => by omega) (fun j u x hu hx => h4 i.toNat v j u x hv hu hx) (fun j x hj hx => ?_)
          exact h5 (i.toNat * es' + j) x (by omega) (by rw [← hx]; congr 1; omega)
      · cases hq
    · cases hq
  · cases hq

theorem indexAddr_sound {t : TypeId} {x i : Operand} (ho : o.op = .indexAddr t x i) (he : evOp E o st K = some r) (hr : RelA E.n ρ lo st a w) (hn : Owes E o st ρ lo w K r next) :
    o.wp E.P a w next Q := by
  unfold evOp at he
  simp only [ho] at he
  split at he
  · rename_i k iv hi
    have hiv := opnd_int hr hi
    split at he
    · rename_i n e hu
      have main : ∀ ad, a.eval x = .pointer (some ad) → 0 ≤ iv → iv < n → E.P.cellsOf e ≠ 0 ∨ (∃ inf, E.P.info? e = some inf) →
          (execOp a.eval o).run E.P w = .ok (.value (.pointer (some (ad.add (iv.toNat * E.P.cellsOf e))))) w := by
        intro ad h h0 hlt hinf
        have hsz : (sizeOf e).run E.P w = .ok (E.P.cellsOf e) w := by
          rcases hinf with hinf | ⟨inf, hinf⟩
          · exact run_sizeOf_ne hinf w
          · exact run_sizeOf hinf w
        unfold execOp
        simp [ho, h, hiv, Instr.indexAt, asIntOf, run_underlying hu, Instr.sureAddr, h0, hlt, hsz]
      have hx := opnd_rel hr x
      split at he
      · rename_i t' off hc
        rw [hc] at hx
        obtain ⟨b, hb, hv⟩ := hx
        split at he
        · rename_i h0
          split at he
          · rename_i hlt
            split at he
            · rename_i hne
              refine still_sound he hr hn (main _ hv h0 hlt (.inl hne)) ⟨b, hb, ?_⟩
              rw [add_none]
            · cases he
          · cases he
        · cases he
      · rename_i p hc
        rw [hc] at hx
        simp only [Option.bind_eq_some_iff] at he
        obtain ⟨_, hck, q, hq, he⟩ := he
        obtain ⟨ad, hv⟩ := nck_inv hx hck
        unfold aidx at hq
        split at hq
        · rename_i h0
          split at hq
          · rename_i hlt
            split at hq
            · rename_i hne
              cases hq
              exact still_sound he hr hn (main _ hv h0 hlt (.inl hne)) ⟨padd_rel (by rw [← hv]; exact hx) _, _, rfl⟩
            · cases hq
          · cases hq
        · cases hq
      · rename_i p hc
        rw [hc] at hx
        obtain ⟨hx, ad, hv⟩ := hx
        simp only [Option.bind_eq_some_iff] at he
        obtain ⟨q, hq, he⟩ := he
        unfold aidx at hq
        split at hq
        · rename_i h0
          split at hq
          · rename_i hlt
            split at hq
            · rename_i hne
              cases hq
              exact still_sound he hr hn (main _ hv h0 hlt (.inl hne)) ⟨padd_rel (by rw [← hv]; exact hx) _, _, rfl⟩
            · cases hq
          · cases hq
        · cases hq
      · cases he
    · rename_i e hu
      split at he
      · cases he
      · rename_i hne
        split at he
        · rename_i s hc
          have hx := opnd_v hr hc
          simp only [Option.bind_eq_some_iff] at he
          obtain ⟨q, hq, he⟩ := he
          obtain ⟨ad, len, cap, hv, h0, hlt, hrel⟩ := sidx_rel hx hq
          refine still_sound he hr hn (v := .pointer (some (ad.add (iv.toNat * E.P.cellsOf e)))) ?_ ⟨hrel, _, rfl⟩
          unfold execOp
          simp [ho, hv, hiv, Instr.indexAt, asIntOf, run_underlying hu, h0, hlt, run_sizeOf_ne hne]
        · cases he
    · cases he
  · cases he

/-- What 'part' finds. -/
theorem part_leaf {P : Program} {t : TypeId} {u : TypeDesc} (hu : P.underlying t = some u) (hag : aggTy u = false) {ys : List Value} {off : Nat} {y : Value} (hy : ys[off]? = some y) (w : World) :
    (part t ys.toArray off).run P w = .ok y w := by
  simp [part, run_isAgg hu, hag, hy]

theorem part_agg {P : Program} {t : TypeId} {u : TypeDesc} (hu : P.underlying t = some u) (hag : aggTy u = true) (ys : List Value) (off : Nat) (w : World) :
    (part t ys.toArray off).run P w = .ok (.agg ((ys.drop off).take (P.cellsOf t)).toArray) w := by
  simp only [part, Sem.run_bind, run_isAgg hu, hag, Result.andThen_ok, if_true, run_sizeOf' hu, Sem.run_pure]
  congr 2
  apply Array.ext'
  simp

theorem part_run {P : Program} {d : Nat} {t : TypeId} {cs : List V} {ys : List Value} (hl : RelL ρ cs ys) (off : Nat) {K' : V → Option R}
    (he : (match tyOf P d t with
      | .leaf l => l.dest cs[off]? K'
      | .strt ls => if off + ls.length ≤ cs.length then rdLs ls (fun j => cs[off + j]?) 0 fun cs => K' (.agg cs) else none
      | .blk n => if off + n ≤ cs.length then K' (.agg ((cs.drop off).take n)) else none
      | _ => none) = some r) : ∃ v y, (part t ys.toArray off).run P w = .ok y w ∧ RelV ρ v y ∧ K' v = some r := by
  obtain ⟨c1, c2, c3⟩ := tyOf_cases P d t
  have sub : ∀ n, off + n ≤ cs.length → RelL ρ ((cs.drop off).take n) ((ys.drop off).take n) := by
    intro n hle
    refine ⟨by simp [hl.1], fun i v y hv hy => ?_⟩
    rw [List.getElem?_take] at hv hy
    split at hv
    · rename_i hi
      rw [if_pos hi] at hy
      rw [List.getElem?_drop] at hv hy
      exact hl.2 _ v y hv hy
    · cases hv
  split at he
  · rename_i l h
    obtain ⟨u, hu, hag, _⟩ := c1 l h
    obtain ⟨v, hv, hk⟩ := dest_inv he
    have hlt : off < ys.length := by rw [← hl.1]; exact (List.getElem?_eq_some_iff.1 hv).1
    have hy := List.getElem?_eq_getElem hlt
    exact ⟨v, ys[off], part_leaf hu hag hy w, (hl.2 off v _ hv hy).1, hk⟩
  · rename_i ls h
    obtain ⟨u, hu, hag, hsz, _⟩ := c2 ls h
    split at he
    · rename_i hle
      obtain ⟨vs, h1, h2, h3⟩ := rdLs_inv he
      have : vs = (cs.drop off).take ls.length := by
        apply List.ext_getElem?
        intro j
        rw [List.getElem?_take]
        by_cases hj : j < vs.length
        · rw [if_pos (by omega), List.getElem?_drop, List.getElem?_eq_getElem hj]
          have := h2 j vs[j] (List.getElem?_eq_getElem hj)
          simpa using this.symm
        · rw [if_neg (by omega), List.getElem?_eq_none (by omega)]
      subst this
      exact ⟨_, _, part_agg hu hag ys off w, by rw [← hsz]; exact (sub _ hle).agg, h3⟩
    · cases he
  · rename_i n h
    obtain ⟨u, hu, hag, hsz, _⟩ := c3 n h
    split at he
    · rename_i hle
      exact ⟨_, _, part_agg hu hag ys off w, by rw [← hsz]; exact (sub _ hle).agg, he⟩
    · cases he
  · cases he

theorem field_sound {t : TypeId} {x : Operand} {i : Nat} (ho : o.op = .field t x i) (he : evOp E o st K = some r) (hr : RelA E.n ρ lo st a w) (hn : Owes E o st ρ lo w K r next) :
    o.wp E.P a w next Q := by
  unfold evOp at he
  simp only [ho] at he
  split at he
  · rename_i cs off ft hc hp
    have hx := opnd_v hr hc
    obtain ⟨ys, hy, hl⟩ := agg_inv hx
    split at he
    · rename_i fs hu
      simp only [placeOf, hu, Option.map_eq_some_iff] at hp
      obtain ⟨f, hf, hfe⟩ := hp
      cases hfe
      obtain ⟨v, y, hrun, hv, hk⟩ := part_run (K' := finV E o st K) (w := w) hl _ he
      refine finV_sound hk hr hn (y := y) ?_ hv
      unfold execOp
      simp [ho, hy, Instr.field, run_underlying hu, hf, Go.asAgg, hrun]
    · cases he
  · cases he

theorem index_sound {t : TypeId} {x i : Operand} (ho : o.op = .index t x i) (he : evOp E o st K = some r) (hr : RelA E.n ρ lo st a w) (hn : Owes E o st ρ lo w K r next) :
    o.wp E.P a w next Q := by
  unfold evOp at he
  simp only [ho] at he
  split at he
  · rename_i cs k iv hc hi
    have hx := opnd_v hr hc
    have hiv := opnd_int hr hi
    obtain ⟨ys, hy, hl⟩ := agg_inv hx
    split at he
    · rename_i n e hu
      split at he
      · rename_i h0
        split at he
        · rename_i hlt
          split at he
          · rename_i hne
            obtain ⟨v, y, hrun, hv, hk⟩ := part_run (K' := finV E o st K) (w := w) hl _ he
            refine finV_sound hk hr hn (y := y) ?_ hv
            unfold execOp
            simp [ho, hy, hiv, Instr.index, run_underlying hu, asIntOf, h0, hlt, run_sizeOf_ne hne, hrun]
          · cases he
        · cases he
      · cases he
    · cases he
  · rename_i s k iv hc hi
    have hx := opnd_v hr hc
    have hiv := opnd_int hr hi
    split at he
    · rename_i hu
      split at he
      · rename_i h0
        simp only [Option.bind_eq_some_iff] at he
        obtain ⟨b, hb, he⟩ := he
        generalize hy : a.eval x = y at hx
        cases hx
        refine finV_sound he hr hn (y := .int .u8 b.toNat) ?_ (.int _ _)
        unfold execOp
        simp [ho, hy, hiv, Instr.index, run_underlying hu, asIntOf, h0, hb]
      · cases he
    · cases he
  · cases he

theorem slen_rel {s : V} {y : Value} (h : RelV ρ s y) {n : Int} (hn : slen s = some n) : ∃ ad len cap, y = .slice ad len cap ∧ n = len ∧ len = snlen s := by
  unfold slen at hn
  split at hn
  · cases hn; cases h; exact ⟨_, _, _, rfl, rfl, rfl⟩
  · cases hn; cases h; exact ⟨_, _, _, rfl, rfl, rfl⟩
  · cases hn; cases h <;> exact ⟨_, _, _, rfl, rfl, rfl⟩
  · cases hn

end ops
end
end Go.L
