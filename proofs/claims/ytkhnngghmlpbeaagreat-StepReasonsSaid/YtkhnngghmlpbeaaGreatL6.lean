/- Writes and new memory: ours and the machine's. -/
import Derived.Test.YtkhnngghmlpbeaaGreatL5
namespace Go.L
noncomputable section

theorem spl_get {α : Type} (l ys : List α) (n j : Nat) (h : n + ys.length ≤ l.length) :
    (l.take n ++ ys ++ l.drop (n + ys.length))[j]? = if j < n then l[j]? else if j < n + ys.length then ys[j - n]? else l[j]? := by
  rw [List.append_assoc]
  by_cases h1 : j < n
  · rw [List.getElem?_append_left (by simp; omega), if_pos h1, List.getElem?_take, if_pos h1]
  · rw [if_neg h1, List.getElem?_append_right (by simp; omega)]
    have e : (l.take n).length = n := by simp; omega
    rw [e]
    by_cases h2 : j < n + ys.length
    · rw [if_pos h2, List.getElem?_append_left (by omega)]
    · rw [if_neg h2, List.getElem?_append_right (by omega), List.getElem?_drop]
      congr 1; omega

theorem splice_eq (cs : List V) (off : Nat) (xs : List V) (h : off + xs.length ≤ cs.length) : splice cs off xs = cs.take off ++ xs ++ cs.drop (off + xs.length) := by
  match xs, h with
  | [], h => simp [splice]
  | [x], h =>
    simp only [splice]
    apply List.ext_getElem?
    intro j
    rw [spl_get cs [x] off j h]
    simp only [List.getElem?_set, List.length_singleton] at h ⊢
    by_cases h1 : j < off
    · rw [if_neg (by omega), if_pos h1]
    · rw [if_neg h1]
      by_cases h2 : off = j
      · subst h2; simp; omega
      · rw [if_neg h2, if_neg (by omega)]
  | x :: y :: r, h => simp [splice]

theorem splice_length (cs : List V) (off : Nat) (xs : List V) (h : off + xs.length ≤ cs.length) : (splice cs off xs).length = cs.length := by
  rw [splice_eq cs off xs h]; simp; omega

theorem splice_get (cs : List V) (off : Nat) (xs : List V) (j : Nat) (h : off + xs.length ≤ cs.length) :
    (splice cs off xs)[j]? = if j < off then cs[j]? else if j < off + xs.length then xs[j - off]? else cs[j]? := by
  rw [splice_eq cs off xs h]; exact spl_get cs xs off j h

/-- A row of cells, some of them written over. -/
theorem row_spliced {ρ : Ren} {cs : List V} {c : Array Value} {base off : Nat} {xs : List V} {ys : List Value} (hl : RelL ρ xs ys)
    (h1 : off + xs.length ≤ cs.length) (h2 : base + cs.length ≤ c.size)
    (hc : ∀ (i : Nat) (x : V) (y : Value), cs[i]? = some x → c[base + i]? = some y → RelV ρ x y ∧ y.oneCell' = true) :
    ∀ (i : Nat) (x : V) (y : Value), (splice cs off xs)[i]? = some x →
      (c.toList.take (base + off) ++ ys ++ c.toList.drop (base + off + ys.length)).toArray[base + i]? = some y → RelV ρ x y ∧ y.oneCell' = true := by
  intro i x y hx hy
  rw [splice_get cs off xs i h1] at hx
  rw [List.getElem?_toArray, spl_get _ _ _ _ (by rw [← hl.1]; simp; omega)] at hy
  by_cases g1 : i < off
  · rw [if_pos g1] at hx
    rw [if_pos (by omega)] at hy
    exact hc i x y hx (by simpa using hy)
  · rw [if_neg g1] at hx
    rw [if_neg (by omega)] at hy
    by_cases g2 : i < off + xs.length
    · rw [if_pos g2] at hx
      rw [if_pos (by rw [← hl.1]; omega)] at hy
      exact hl.2 (i - off) x y hx (by rw [← hy]; congr 1; omega)
    · rw [if_neg g2] at hx
      rw [if_neg (by rw [← hl.1]; omega)] at hy
      exact hc i x y hx (by simpa using hy)

theorem heap_setRow {w : World} {b : Nat} {c c' : Array Value} {e : TypeId} {fr : Nat × Nat} (h : w.heap[b]? = some (.cells c e fr)) :
    (w.setRow b c').heap[b]? = some (.cells c' e fr) := setRow_heap w b c c' e fr h

/-- An object of ours, its cells others. -/
theorem RelH.set_cells {ρ : Ren} {h : H} {w w' : World} (hh : RelH ρ h w) {id : Nat} {g : Img} (hg : ρ.wr id = some g) {o o' : O} {ob' : Obj}
    (ho : h[id]? = some o) (hv : o'.ver = o.ver) (hw' : w'.heap[g.blk]? = some ob') (hro : RelO ρ g o' ob')
    (hoth : ∀ b, b ≠ g.blk → w'.heap[b]? = w.heap[b]?) : RelH ρ (h.set id o') w' where
  n := by rw [hh.n]; simp
  live j oj hj hl := by
    rw [List.getElem?_set] at hj
    by_cases e : id = j
    · subst e; exact ⟨g, hg⟩
    · rw [if_neg e] at hj; exact hh.live j oj hj hl
  obj j g' hj := by
    by_cases e : id = j
    · subst e
      rw [hg] at hj; cases hj
      obtain ⟨o1, ob1, h1, _, _, h4⟩ := hh.obj id g hg
      rw [ho] at h1; cases h1
      have hlt : id < h.length := (List.getElem?_eq_some_iff.1 ho).1
      refine ⟨o', ob', by rw [List.getElem?_set, if_pos rfl, if_pos hlt], hw', hro, by rw [h4, hv]⟩
    · obtain ⟨o1, ob1, h1, h2, h3, h4⟩ := hh.obj j g' hj
      refine ⟨o1, ob1, by rw [List.getElem?_set, if_neg e]; exact h1, ?_, h3, h4⟩
      rw [hoth _ (fun hb => e (hh.inj id j g g' hg hj hb.symm))]; exact h2
  inj := hh.inj
  ro b ob hb := by
    rw [hoth b (fun e => by subst e; have := hh.sep id g hg; rw [hb] at this; cases this)]
    exact hh.ro b ob hb
  sep := hh.sep
  rsv j hj := by
    rw [List.getElem?_set] at hj
    by_cases e : id = j
    · subst e
      rw [if_pos rfl] at hj
      split at hj
      · cases hj; exact hro.elim
      · cases hj
    · rw [if_neg e] at hj; exact hh.rsv j hj

theorem still_setRow {w : World} {b : Nat} {c c' : Array Value} {e : TypeId} {fr : Nat × Nat} (h : w.heap[b]? = some (.cells c e fr)) (hf : fr.2 = 0) : Still w (w.setRow b c') :=
  still_of rfl rfl fun k => by
    by_cases hk : k = b
    · right
      subst hk
      rw [heap_setRow h, h]
      exact ⟨hf, hf⟩
    · exact .inl (setRow_other w b k _ hk)

theorem wr_rel (P : Program) {ρ : Ren} {h h' : H} {w : World} (hh : RelH ρ h w) {p : V} {x : Value} (hp : RelV ρ p x) {xs : List V} {ys : List Value} (hl : RelL ρ xs ys)
    (hw : wr h p xs = some h') : ∃ ad w', x = .pointer (some ad) ∧ (storeCells ad ys 0).run P w = .ok () w' ∧ RelH ρ h' w' ∧ w'.heap.size = w.heap.size ∧
      ∃ id g, ρ.wr id = some g ∧ Still w w' ∧ ∀ b, b ≠ g.blk → w'.heap[b]? = w.heap[b]? := by
  unfold wr at hw
  split at hw
  · rename_i id ver off
    split at hw
    · rename_i v cs hid
      split at hw
      · rename_i hv
        subst hv
        split at hw
        · rename_i hle
          cases hw
          obtain ⟨g, hg⟩ := hh.live id _ hid rfl
          obtain ⟨o, ob, ho, hwb, hro, hver⟩ := hh.obj id g hg
          rw [hid] at ho
          cases ho
          cases hp with
          | ptr _ _ _ ad h1 h2 h3 =>
            have ha := h3 g hver.symm hg
            subst ha
            cases ob with
            | cells c e fr =>
              obtain ⟨hs, hcl, hf, hc⟩ := hro
              have hrun := run_storeCells_atF P g.blk (g.base + off) e fr ys 0 c w hwb (by omega) (by rw [← hl.1]; omega) hl.one
              simp only [Nat.add_zero] at hrun
              refine ⟨_, _, rfl, hrun, ?_, by simp, id, g, hg, still_setRow hwb hf, fun b hb => setRow_other w g.blk b _ hb⟩
              refine hh.set_cells hg hid rfl (heap_setRow hwb) ?_ (fun b hb => setRow_other w g.blk b _ hb)
              refine ⟨?_, by rw [splice_length cs off xs hle]; exact hcl, hf, row_spliced hl hle (by omega) hc⟩
              simp
              have := hl.1
              omega
            | _ => exact hro.elim
        · cases hw
      · cases hw
    · cases hw
  · cases hw

/-- The Step of a write into an object of ours. -/
theorem step_in {ρ : Ren} {lo : Nat → Option Nat} {w w' : World} (hs : w'.heap.size = w.heap.size) {id : Nat} {g : Img} (hg : ρ.wr id = some g)
    (hst : Still w w') (hoth : ∀ b, b ≠ g.blk → w'.heap[b]? = w.heap[b]?) : Step ρ lo w ρ lo w' :=
  ⟨.refl ρ, hst, by omega, fun b _ h1 h2 => ⟨hoth b (fun e => h1 id g hg e.symm), h1, h2, rfl⟩⟩

theorem RelA.of_heap {n : Nat} {ρ : Ren} {lo : Nat → Option Nat} {st : St} {a : Act} {w w' : World} (hr : RelA n ρ lo st a w) {h' : H} (hh : RelH ρ h' w')
    (hs : w'.heap.size = w.heap.size) {id : Nat} {g : Img} (hg : ρ.wr id = some g) (hoth : ∀ b, b ≠ g.blk → w'.heap[b]? = w.heap[b]?) : RelA n ρ lo ⟨st.s, st.l, h'⟩ a w' where
  h := hh
  s := hr.s
  l t cs ht := by
    obtain ⟨b, ob, h1, h2, h3⟩ := hr.l t cs ht
    refine ⟨b, ob, h1, ?_, h3⟩
    rw [hoth b (fun e => (hr.lout t b h1).1 id g hg e.symm)]; exact h2
  ldom := hr.ldom
  lout t b h1 := ⟨(hr.lout t b h1).1, (hr.lout t b h1).2.1, by rw [hs]; exact (hr.lout t b h1).2.2⟩
  linj := hr.linj
  size := hr.size
  defs := hr.defs

theorem put_sound (P : Program) {R : Type} {r : R} {n : Nat} {ρ : Ren} {lo : Nat → Option Nat} {st : St} {a : Act} {w : World} (hr : RelA n ρ lo st a w) {p : S} {x : Value} (hp : RelS ρ lo p x)
    {xs : List V} {ys : List Value} (hl : RelL ρ xs ys) {K : List (Nat × List V) → H → Option R} (he : st.put p xs K = some r) :
    ∃ ad w' l' h', x = .pointer (some ad) ∧ (storeCells ad ys 0).run P w = .ok () w' ∧ K l' h' = some r ∧ RelA n ρ lo ⟨st.s, l', h'⟩ a w' ∧ Step ρ lo w ρ lo w' := by
  have heapcase : ∀ p : V, RelV ρ p x → (wr st.h p xs).bind (fun h => K st.l h) = some r →
      ∃ ad w' l' h', x = .pointer (some ad) ∧ (storeCells ad ys 0).run P w = .ok () w' ∧ K l' h' = some r ∧ RelA n ρ lo ⟨st.s, l', h'⟩ a w' ∧ Step ρ lo w ρ lo w' := by
    intro p hp he
    simp only [Option.bind_eq_some_iff] at he
    obtain ⟨h', hw, hk⟩ := he
    obtain ⟨ad, w', hx, hrun, hh', hs, id, g, hg, hst, hoth⟩ := wr_rel P hr.h hp hl hw
    exact ⟨ad, w', st.l, h', hx, hrun, hk, hr.of_heap hh' hs hg hoth, step_in hs hg hst hoth⟩
  cases p with
  | bad => simp [St.put] at he
  | un => simp [St.put] at he
  | v p => exact heapcase p hp he
  | p p => exact heapcase p hp.1 he
  | lp t off =>
    obtain ⟨b, hb, rfl⟩ := hp
    simp only [St.put] at he
    split at he
    · rename_i cs hcs
      split at he
      · rename_i hle
        obtain ⟨b', ob, hb', hwb, hc⟩ := hr.l t cs hcs
        rw [hb] at hb'
        cases hb'
        cases ob with
        | cells c e fr =>
          obtain ⟨h1, h2, h3⟩ := hc
          have hrun := run_storeCells_atF P b off e fr ys 0 c w hwb (by omega) (by rw [← hl.1]; omega) hl.one
          simp only [Nat.add_zero] at hrun
          have hout := hr.lout t b hb
          have hoth : ∀ k, k ≠ b → (w.setRow b (c.toList.take off ++ ys ++ c.toList.drop (off + ys.length)).toArray).heap[k]? = w.heap[k]? := fun k hk => setRow_other w b k _ hk
          refine ⟨_, _, _, _, rfl, hrun, he, ?_, ?_⟩
          · refine ⟨?_, hr.s, ?_, ?_, ?_, hr.linj, hr.size, hr.defs⟩
            · refine ⟨hr.h.n, hr.h.live, ?_, hr.h.inj, ?_, hr.h.sep, hr.h.rsv⟩
              · intro id g hg
                obtain ⟨o, ob, k1, k2, k3, k4⟩ := hr.h.obj id g hg
                exact ⟨o, ob, k1, by rw [hoth _ (hout.1 id g hg)]; exact k2, k3, k4⟩
              · intro k ob hk
                rw [hoth k (fun e => by subst e; rw [hout.2.1] at hk; cases hk)]
                exact hr.h.ro k ob hk
            · intro t' cs' ht'
              rw [lkl_cons] at ht'
              by_cases et : t = t'
              · subst et
                rw [if_pos rfl] at ht'
                cases ht'
                refine ⟨b, _, hb, heap_setRow hwb, ?_⟩
                refine ⟨?_, h2, ?_⟩
                · have := hl.1
                  rw [splice_length cs off xs hle]; simp; omega
                · have := row_spliced (base := 0) hl hle (c := c) (by omega) (fun i x y hx hy => h3 i x y hx (by simpa using hy))
                  intro i x y hx hy
                  exact this i x y hx (by simpa using hy)
              · rw [if_neg et] at ht'
                obtain ⟨b', ob', k1, k2, k3⟩ := hr.l t' cs' ht'
                refine ⟨b', ob', k1, ?_, k3⟩
                rw [hoth b' (fun e => et (hr.linj t t' b hb (e ▸ k1)))]; exact k2
            · intro t' b' ht'
              rw [lkl_cons]
              by_cases et : t = t'
              · rw [if_pos et]; exact ⟨_, rfl⟩
              · rw [if_neg et]; exact hr.ldom t' b' ht'
            · intro t' b' ht'
              exact ⟨(hr.lout t' b' ht').1, (hr.lout t' b' ht').2.1, by simpa using (hr.lout t' b' ht').2.2⟩
          · exact ⟨.refl ρ, still_setRow hwb h2, by simp, fun k _ k1 k2 => ⟨hoth k (fun e => k2 t (e ▸ hb)), k1, k2, rfl⟩⟩
        | _ => exact hc.elim
      · cases he
    · cases he

end
end Go.L
