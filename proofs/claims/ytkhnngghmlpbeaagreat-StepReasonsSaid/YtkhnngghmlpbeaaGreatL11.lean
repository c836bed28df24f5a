/- Operations: variables, boxes, literals, makes. -/
import Derived.Test.YtkhnngghmlpbeaaGreatL10
namespace Go.L
noncomputable section

section ops
variable {R : Type} {E : Env} {o : Oper} {st : St} {K : St → Option R} {r : R} {ρ : Ren} {lo : Nat → Option Nat} {a : Act} {w : World}
  {next : Act → World → Prop} {Q : Exit → Act → World → Prop}

theorem cstVs_relL (ρ : Ren) : ∀ {l : List Value} {cs : List V}, cstVs l = some cs → RelL ρ cs l := by
  intro l cs h
  obtain ⟨h1, h2⟩ := cstVs_rel ρ h
  refine ⟨h1, fun i v y hv hy => ⟨h2 i v y hv hy, ?_⟩⟩
  clear h1 h2 hv
  induction l generalizing cs i with
  | nil => simp at hy
  | cons z l ih =>
    simp only [cstVs, Option.bind_eq_some_iff] at h
    obtain ⟨x, hx, xs, hxs, h⟩ := h
    cases i with
    | zero => simp at hy; subst hy; exact cstV_one hx
    | succ i => simp at hy; exact ih hxs i hy

theorem zeroCells_inv {P : Program} {t : TypeId} {cs : List V} (h : zeroCells P t = some cs) : ∃ i v, P.info? t = some i ∧ i.zero = some v ∧ cstVs v.cells.toList = some cs := by
  unfold zeroCells at h
  simp only [Option.bind_eq_some_iff] at h
  obtain ⟨v, ⟨i, hi, hz⟩, hc⟩ := h
  exact ⟨i, v, hi, hz, hc⟩

theorem run_zeroValue {P : Program} {t : TypeId} {i : TypeInfo} {v : Value} (hi : P.info? t = some i) (hz : i.zero = some v) (w : World) : (zeroValue t).run P w = .ok v w := by
  simp [zeroValue, run_typeInfo hi, hz]

def pushed (w : World) (o : Obj) : World := { w with heap := w.heap.push o }

/-- A new variable of ours, on the heap. -/
theorem new_heap (hr : RelA E.n ρ lo st a w) {cs : List V} {c : Array Value} (hl : RelL ρ cs c.toList) (t : TypeId) :
    ∃ ρ', RelA E.n ρ' lo ⟨st.s, st.l, st.h ++ [.cells 0 cs]⟩ a (pushed w (.cells c t)) ∧ Step ρ lo w ρ' lo (pushed w (.cells c t)) ∧
      RelV ρ' (.ptr st.h.length 0 0) (.pointer (some ⟨w.heap.size, 0, none⟩)) ∧ ∀ (len es : Nat), len * es ≤ cs.length → ∀ cap : Option Nat, (∀ c, cap = some c → len ≤ c ∧ c * es ≤ cs.length) → ∀ rc, len ≤ rc → rc * es ≤ cs.length → (∀ c, cap = some c → rc = c) →
        RelV ρ' (.sl st.h.length 0 0 len es cap) (.slice (some ⟨w.heap.size, 0, none⟩) len rc) := by
  have hn := hr.h.n
  have hro : RelO ρ ⟨w.heap.size, 0, cs.length⟩ (.cells 0 cs) (.cells c t) :=
    ⟨by have := hl.1; simp at this; simp; omega, Nat.le_refl _, rfl, fun i x y hx hy => hl.2 i x y hx (by simpa using hy)⟩
  obtain ⟨hh, hs⟩ := add_rel (o := .cells 0 cs) hr.h (w' := pushed w (.cells c t)) ⟨rfl, rfl, rfl⟩ rfl hro
  obtain ⟨h1, h2⟩ := hr.lift hh hs
  refine ⟨_, h1, h2, ?_, ?_⟩
  · refine .ptr _ 0 0 _ (by simp [Ren.add, hn]) (Nat.zero_le _) fun g hv hg => ?_
    simp [Ren.add, hn] at hg
    subst hg
    rfl
  · intro len es hle cap hcap rc h3 h4 h5
    refine .sl _ 0 0 len es cap _ rc (by simp [Ren.add, hn]) (Nat.zero_le _) h3 h5 fun g hv hg hp => ?_
    simp [Ren.add, hn] at hg
    subst hg
    exact ⟨rfl, by simpa using h4⟩

/-- New memory in a place that was kept for it. -/
theorem new_fill (hr : RelA E.n ρ lo st a w) {cs : List V} {c : Array Value} (hl : RelL ρ cs c.toList) (t : TypeId) {d : Nat} {h' : H} (hf : hfill st.h d cs = some h') :
    ∃ ρ', RelA E.n ρ' lo ⟨st.s, st.l, h'⟩ a (pushed w (.cells c t)) ∧ Step ρ lo w ρ' lo (pushed w (.cells c t)) ∧
      ∀ (len es : Nat), len * es ≤ cs.length → ∀ cap : Option Nat, (∀ c, cap = some c → len ≤ c ∧ c * es ≤ cs.length) → ∀ rc, len ≤ rc → rc * es ≤ cs.length → (∀ c, cap = some c → rc = c) →
        RelV ρ' (.sl (st.h.length - d) 1 0 len es cap) (.slice (some ⟨w.heap.size, 0, none⟩) len rc) := by
  have hn := hr.h.n
  unfold hfill at hf
  split at hf
  · rename_i hid
    cases hf
    have hlt : st.h.length - d < st.h.length := (List.getElem?_eq_some_iff.1 hid).1
    have hv := (hr.h.rsv _ hid).2
    have hro : RelO ρ ⟨w.heap.size, 0, cs.length⟩ (.cells 1 cs) (.cells c t) :=
      ⟨by have := hl.1; simp at this; simp; omega, Nat.le_refl _, rfl, fun i x y hx hy => hl.2 i x y hx (by simpa using hy)⟩
    obtain ⟨hh, hs⟩ := fill_rel hr.h hid (w' := pushed w (.cells c t)) ⟨rfl, rfl, rfl⟩ hro
    obtain ⟨h1, h2⟩ := hr.lift hh hs
    refine ⟨_, h1, h2, ?_⟩
    intro len es hle cap hcap rc h3 h4 h5
    refine .sl _ 1 0 len es cap _ rc (by show _ < ρ.n; omega) (by simp [Ren.move, hv]) h3 h5 fun g hv hg hp => ?_
    simp [Ren.move] at hg
    subst hg
    exact ⟨rfl, by simpa using h4⟩
  · cases hf

/-- Places are kept. -/
theorem keep_all (hr : RelA E.n ρ lo st a w) (k : Nat) : ∃ ρ', RelA E.n ρ' lo ⟨st.s, st.l, st.h ++ List.replicate k .rsv⟩ a w ∧ Step ρ lo w ρ' lo w := by
  obtain ⟨hh, hs⟩ := keep_rel hr.h k
  obtain ⟨h1, h2⟩ := hr.lift hh hs
  exact ⟨_, h1, h2⟩

/-- A new variable of the call's own. -/
theorem new_local (hr : RelA E.n ρ lo st a w) {cs : List V} {c : Array Value} (hl : RelL ρ cs c.toList) (t : TypeId) {d : Nat} (hd : lkl st.l d = none) :
    ∃ lo', RelA E.n ρ lo' ⟨st.s, (d, cs) :: st.l, st.h⟩ a (pushed w (.cells c t)) ∧ Step ρ lo w ρ lo' (pushed w (.cells c t)) ∧ lo' d = some w.heap.size := by
  have hlo : lo d = none := by
    cases h : lo d with
    | none => rfl
    | some b => obtain ⟨c, hc⟩ := hr.ldom d b h; rw [hd] at hc; cases hc
  have hp : ∀ b, b < w.heap.size → (pushed w (.cells c t)).heap[b]? = w.heap[b]? := fun b hb => heap_push rfl hb
  have hsz : (pushed w (.cells c t)).heap.size = w.heap.size + 1 := by show (w.heap.push _).size = _; simp
  have hnew : (pushed w (.cells c t)).heap[w.heap.size]? = some (.cells c t (0, 0)) := by show (w.heap.push _)[w.heap.size]? = _; simp
  refine ⟨fun i => if i = d then some w.heap.size else lo i, ⟨?_, ?_, ?_, ?_, ?_, ?_, hr.size, hr.defs⟩, ⟨.refl ρ, Pushes.still ⟨rfl, rfl, rfl⟩ (ob := .cells c t) rfl, by omega, ?_⟩, by simp⟩
  · refine ⟨hr.h.n, hr.h.live, ?_, hr.h.inj, ?_, hr.h.sep, hr.h.rsv⟩
    · intro id g hg
      obtain ⟨o1, ob, k1, k2, k3⟩ := hr.h.obj id g hg
      exact ⟨o1, ob, k1, by rw [hp _ (hr.h.blk_lt hg)]; exact k2, k3⟩
    · intro b ob hb
      rw [hp _ (hr.h.ro_lt hb)]; exact hr.h.ro b ob hb
  · intro i
    have := hr.s i
    show RelS ρ _ (lk st.s i) (a.tmps.getD i undef)
    cases hx : lk st.s i with
    | v x => rw [hx] at this; exact this
    | p x => rw [hx] at this; exact this
    | bad => trivial
    | un => rw [hx] at this; exact this
    | lp t' off =>
      rw [hx] at this
      obtain ⟨b, hb, hv⟩ := this
      refine ⟨b, ?_, hv⟩
      show (if t' = d then _ else _) = _
      rw [if_neg (fun e => by subst e; rw [hlo] at hb; cases hb)]; exact hb
  · intro t' cs' ht'
    rw [lkl_cons] at ht'
    by_cases e : d = t'
    · subst e
      rw [if_pos rfl] at ht'
      cases ht'
      exact ⟨_, _, by simp, hnew, by have := hl.1; simp at this; omega, rfl, fun i x y hx hy => hl.2 i x y hx (by simpa using hy)⟩
    · rw [if_neg e] at ht'
      obtain ⟨b, ob, k1, k2, k3⟩ := hr.l t' cs' ht'
      refine ⟨b, ob, by show (if t' = d then _ else _) = _; rw [if_neg (fun x => e x.symm)]; exact k1, ?_, k3⟩
      rw [hp _ (hr.lout t' b k1).2.2]; exact k2
  · intro t' b ht'
    rw [lkl_cons]
    by_cases e : t' = d
    · exact ⟨cs, by rw [if_pos e.symm]⟩
    · replace ht' : (if t' = d then some w.heap.size else lo t') = some b := ht'
      rw [if_neg e] at ht'
      rw [if_neg (fun x => e x.symm)]
      exact hr.ldom t' b ht'
  · intro t' b ht'
    replace ht' : (if t' = d then some w.heap.size else lo t') = some b := ht'
    by_cases e : t' = d
    · rw [if_pos e] at ht'
      cases ht'
      refine ⟨fun i g hg => by have := hr.h.blk_lt hg; omega, ?_, by omega⟩
      cases hq : ρ.ro w.heap.size with
      | none => rfl
      | some x => have := hr.h.ro_lt hq; omega
    · rw [if_neg e] at ht'
      exact ⟨(hr.lout t' b ht').1, (hr.lout t' b ht').2.1, by have := (hr.lout t' b ht').2.2; omega⟩
  · intro t1 t2 b h1 h2
    replace h1 : (if t1 = d then some w.heap.size else lo t1) = some b := h1
    replace h2 : (if t2 = d then some w.heap.size else lo t2) = some b := h2
    by_cases e1 : t1 = d <;> by_cases e2 : t2 = d
    · rw [e1, e2]
    · rw [if_pos e1] at h1; rw [if_neg e2] at h2
      cases h1
      have := (hr.lout t2 _ h2).2.2; omega
    · rw [if_neg e1] at h1; rw [if_pos e2] at h2
      cases h2
      have := (hr.lout t1 _ h1).2.2; omega
    · rw [if_neg e1] at h1; rw [if_neg e2] at h2
      exact hr.linj t1 t2 b h1 h2
  · intro b hb k1 k2
    refine ⟨hp b hb, k1, fun t' => ?_, rfl⟩
    show (if t' = d then some w.heap.size else lo t') ≠ some b
    by_cases e : t' = d
    · rw [if_pos e]; intro h; cases h; omega
    · rw [if_neg e]; exact k2 t'

theorem newVar_sound {cs : List V} {c : Array Value} (hl : RelL ρ cs c.toList) {t : TypeId} (hr : RelA E.n ρ lo st a w) (hn : Owes E o st ρ lo w K r next)
    (hrun : (execOp a.eval o).run E.P w = .ok (.value (.pointer (some ⟨w.heap.size, 0, none⟩))) (pushed w (.cells c t)))
    (hq : quietL E o = !ownOf E o) (he : (match ownOf E o, o.dst with
      | true, some d => match lkl st.l d with
        | none => fin E o st K (.lp d 0) ((d, cs) :: st.l) st.h
        | some _ => none
      | _, _ => fin E o st K (.v (.ptr st.h.length 0 0)) st.l (st.h ++ [.cells 0 cs])) = some r) : o.wp E.P a w next Q := by
  split at he
  · rename_i d hown hd
    split at he
    · rename_i hlk
      obtain ⟨lo', h1, h2, h3⟩ := new_local hr hl t hlk
      exact upon_of hrun (fin_sound he h1 (x := .lp d 0) ⟨_, h3, rfl⟩ h2 hn (by rw [hq, hown]; simp))
    · cases he
  · obtain ⟨ρ', h1, h2, h3, _⟩ := new_heap hr hl t
    exact upon_of hrun (fin_sound he h1 (x := .v _) h3 h2 hn)

theorem alloc_sound {t : TypeId} (ho : o.op = .alloc t) (he : evOp E o st K = some r) (hr : RelA E.n ρ lo st a w) (hn : Owes E o st ρ lo w K r next) :
    o.wp E.P a w next Q := by
  unfold evOp at he
  simp only [ho, Option.bind_eq_some_iff] at he
  obtain ⟨cs, hcs, he⟩ := he
  obtain ⟨i, v, hi, hz, hc⟩ := zeroCells_inv hcs
  refine newVar_sound (cstVs_relL ρ hc) (t := t) hr hn ?_ (by simp [quietL, ho]) he
  unfold execOp
  simp [ho, Instr.alloc, run_zeroValue hi hz, newVar, newRow, pushed]

theorem box_sound {t : TypeId} {x : Operand} (ho : o.op = .box t x) (he : evOp E o st K = some r) (hr : RelA E.n ρ lo st a w) (hn : Owes E o st ρ lo w K r next) :
    o.wp E.P a w next Q := by
  unfold evOp at he
  simp only [ho] at he
  split at he
  · rename_i x' hx
    obtain ⟨xs, hl, hlen, he, hpos, u, hu⟩ := cellsAs_inv (opnd_v hr hx) he
    refine newVar_sound hl (t := t) hr hn ?_ (by simp [quietL, ho]) he
    unfold execOp
    simp [ho, Instr.box, newVar, newRow, pushed]
  · cases he

theorem argsK_inv (hr : RelA E.n ρ lo st a w) : ∀ {l : List Operand} {K' : List V → Option R}, argsK st l K' = some r →
    ∃ vs, vs.length = l.length ∧ (∀ (i : Nat) (v : V) (x : Operand), vs[i]? = some v → l[i]? = some x → RelV ρ v (a.eval x)) ∧ K' vs = some r
  | [], K', h => ⟨[], rfl, by simp, h⟩
  | x :: l, K', h => by
    simp only [argsK] at h
    split at h
    · rename_i v hv
      obtain ⟨vs, h1, h2, h3⟩ := argsK_inv hr h
      refine ⟨v :: vs, by simp [h1], fun i u y hu hy => ?_, h3⟩
      cases i with
      | zero => simp at hu hy; subst hu; subst hy; exact opnd_v hr hv
      | succ i => simp at hu hy; exact h2 i u y hu hy
    · cases h

theorem args_rel {l : Array Operand} {vs : List V} (h1 : vs.length = l.toList.length) (h2 : ∀ (i : Nat) (v : V) (x : Operand), vs[i]? = some v → l.toList[i]? = some x → RelV ρ v (a.eval x)) :
    (l.map a.eval).size = vs.length ∧ ∀ (i : Nat) (v : V) (x : Value), vs[i]? = some v → (l.map a.eval)[i]? = some x → RelV ρ v x := by
  refine ⟨by simp [h1], fun i v x hv hx => ?_⟩
  simp only [Array.getElem?_map, Option.map_eq_some_iff] at hx
  obtain ⟨y, hy, rfl⟩ := hx
  exact h2 i v y hv (by simpa using hy)

theorem makeFunc_sound {f : FuncId} {first cap : Array Operand} (ho : o.op = .makeFunc (.func f) first cap) (he : evOp E o st K = some r) (hr : RelA E.n ρ lo st a w) (hn : Owes E o st ρ lo w K r next) :
    o.wp E.P a w next Q := by
  unfold evOp at he
  simp only [ho] at he
  split at he
  · rename_i hf
    obtain ⟨vs, h1, h2, he⟩ := argsK_inv hr he
    obtain ⟨h3, h4⟩ := args_rel h1 h2
    have hf' : first = #[] := by cases first; simp at hf; rw [hf]
    refine finV_sound he hr hn (y := .func (.func f) #[] (cap.map a.eval)) ?_ (.fn f vs _ h3 h4)
    unfold execOp
    simp [ho, Instr.makeFunc, hf']
  · cases he

theorem makeMap_sound {t : TypeId} (ho : o.op = .makeMap t none) (he : evOp E o st K = some r) (hr : RelA E.n ρ lo st a w) (hn : Owes E o st ρ lo w K r next) :
    o.wp E.P a w next Q := by
  unfold evOp at he
  simp only [ho] at he
  have hro : RelO ρ ⟨w.heap.size, 0, 0⟩ (.map []) (.map #[] 0) := ⟨rfl, by simp⟩
  obtain ⟨hh, hs⟩ := add_rel (o := .map []) hr.h (w' := pushed w (.map #[] 0)) ⟨rfl, rfl, rfl⟩ rfl hro
  obtain ⟨h1, h2⟩ := hr.lift hh hs
  refine upon_of (v := .map (some w.heap.size)) (w' := pushed w (.map #[] 0)) ?_ (fin_sound he h1 ?_ h2 hn)
  · unfold execOp
    simp [ho, Instr.makeMap, pushed]
  · have hn := hr.h.n
    refine .map _ _ (by simp [Ren.add, hn]) fun g hv hg => ?_
    simp [Ren.add, hn] at hg
    subst hg
    rfl

/-- A cell of a zero row. -/
theorem repeatC_length (z : List V) : ∀ n, (repeatC n z).length = n * z.length
  | 0 => by simp [repeatC]
  | n + 1 => by simp [repeatC, repeatC_length z n, Nat.add_mul]; omega

theorem repeatC_get (z : List V) (hz : 0 < z.length) : ∀ n i, i < n * z.length → (repeatC n z)[i]? = z[i % z.length]?
  | 0, i, h => by simp at h
  | n + 1, i, h => by
    simp only [repeatC]
    by_cases h1 : i < z.length
    · rw [List.getElem?_append_left h1, Nat.mod_eq_of_lt h1]
    · have e1 : i % z.length = (i - z.length) % z.length := Nat.mod_eq_sub_mod (by omega)
      rw [Nat.add_mul, Nat.one_mul] at h
      rw [List.getElem?_append_right (by omega), repeatC_get z hz n (i - z.length) (by omega), e1]

theorem zeros_rel {z : List V} {zs : Array Value} (hl : RelL ρ z zs.toList) (hz : 0 < z.length) (n : Nat) :
    RelL ρ (repeatC n z) ((Array.range (n * z.length)).map (fun i => zs[i % zs.size]!)).toList := by
  have hsz : zs.size = z.length := by rw [hl.1]; simp
  refine ⟨by simp [repeatC_length], fun i v y hv hy => ?_⟩
  have hi : i < n * z.length := by rw [← repeatC_length]; exact (List.getElem?_eq_some_iff.1 hv).1
  rw [repeatC_get z hz n i hi] at hv
  have hm : i % z.length < zs.size := by rw [hsz]; exact Nat.mod_lt _ hz
  have : y = zs[i % z.length] := by
    simp [hi, hsz] at hy
    rw [← hy, getElem!_pos zs (i % z.length) hm]
  subst this
  exact hl.2 (i % z.length) v _ hv (by simp [hm])

end ops
end
end Go.L
