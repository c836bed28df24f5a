/- New memory, appends, what is frozen. -/
import Derived.Test.YtkhnngghmlpbeaaGreatL6
namespace Go.L
noncomputable section

def nol : Nat → Option Nat := fun _ => none

theorem RelO.mono {ρ ρ' : Ren} (hle : Le ρ ρ') {g : Img} {o : O} {ob : Obj} (h : RelO ρ g o ob) : RelO ρ' g o ob := by
  unfold RelO at *
  split at h
  · exact ⟨h.1, h.2.1, h.2.2.1, fun i x y hx hy => ⟨RelV.mono hle (h.2.2.2 i x y hx hy).1, (h.2.2.2 i x y hx hy).2⟩⟩
  · exact ⟨h.1, fun i e m he hm => ⟨RelV.mono hle (h.2 i e m he hm).1, RelV.mono hle (h.2 i e m he hm).2⟩⟩
  · exact h

theorem RelC.mono {ρ ρ' : Ren} (hle : Le ρ ρ') {cs : List V} {ob : Obj} (h : RelC ρ cs ob) : RelC ρ' cs ob := by
  unfold RelC at *
  split at h
  · exact ⟨h.1, h.2.1, fun i x y hx hy => ⟨RelV.mono hle (h.2.2 i x y hx hy).1, (h.2.2 i x y hx hy).2⟩⟩
  · exact h

theorem RelL.mono {ρ ρ' : Ren} (hle : Le ρ ρ') {xs : List V} {ys : List Value} (h : RelL ρ xs ys) : RelL ρ' xs ys :=
  ⟨h.1, fun i v y hv hy => ⟨RelV.mono hle (h.2 i v y hv hy).1, (h.2 i v y hv hy).2⟩⟩

theorem RelH.blk_lt {ρ : Ren} {h : H} {w : World} (hh : RelH ρ h w) {id : Nat} {g : Img} (hg : ρ.wr id = some g) : g.blk < w.heap.size := by
  obtain ⟨o, ob, _, h2, _⟩ := hh.obj id g hg
  exact (Array.getElem?_eq_some_iff.1 h2).1

theorem RelH.id_lt {ρ : Ren} {h : H} {w : World} (hh : RelH ρ h w) {id : Nat} {g : Img} (hg : ρ.wr id = some g) : id < ρ.n := by
  obtain ⟨o, ob, h1, _⟩ := hh.obj id g hg
  rw [hh.n]
  exact (List.getElem?_eq_some_iff.1 h1).1

theorem RelH.ro_lt {ρ : Ren} {h : H} {w : World} (hh : RelH ρ h w) {b : Nat} {ob : Obj} (hb : ρ.ro b = some ob) : b < w.heap.size :=
  (Array.getElem?_eq_some_iff.1 (hh.ro b ob hb)).1

/-- A change of memory that is none of the call's own variables'. -/
theorem RelA.lift {n : Nat} {ρ ρ' : Ren} {lo : Nat → Option Nat} {st : St} {a : Act} {w w' : World} {h' : H} (hr : RelA n ρ lo st a w) (hh : RelH ρ' h' w')
    (hs : Step ρ nol w ρ' nol w') : RelA n ρ' lo ⟨st.s, st.l, h'⟩ a w' ∧ Step ρ lo w ρ' lo w' := by
  have key : ∀ t b, lo t = some b → w'.heap[b]? = w.heap[b]? ∧ (∀ i g, ρ'.wr i = some g → g.blk ≠ b) ∧ ρ'.ro b = ρ.ro b := by
    intro t b hb
    obtain ⟨h1, h2, h3⟩ := hr.lout t b hb
    obtain ⟨k1, k2, _, k4⟩ := hs.keep b h3 h1 (fun _ => by simp [nol])
    exact ⟨k1, k2, k4⟩
  refine ⟨⟨hh, fun i => (hr.s i).mono hs.le, ?_, hr.ldom, ?_, hr.linj, hr.size, hr.defs⟩, ⟨hs.le, hs.still, hs.size, ?_⟩⟩
  · intro t cs ht
    obtain ⟨b, ob, h1, h2, h3⟩ := hr.l t cs ht
    exact ⟨b, ob, h1, by rw [(key t b h1).1]; exact h2, h3.mono hs.le⟩
  · intro t b ht
    obtain ⟨k1, k2, k3⟩ := key t b ht
    exact ⟨k2, by rw [k3]; exact (hr.lout t b ht).2.1, Nat.lt_of_lt_of_le (hr.lout t b ht).2.2 hs.size⟩
  · intro b hb h1 h2
    obtain ⟨k1, k2, _, k4⟩ := hs.keep b hb h1 (fun _ => by simp [nol])
    exact ⟨k1, k2, h2, k4⟩

theorem RelH.of_same {ρ : Ren} {h : H} {w w' : World} (hh : RelH ρ h w) (e : w'.heap = w.heap) : RelH ρ h w' :=
  ⟨hh.n, hh.live, fun id g hg => by obtain ⟨o, ob, h1, h2, h3⟩ := hh.obj id g hg; exact ⟨o, ob, h1, by rw [e]; exact h2, h3⟩, hh.inj,
    fun b ob hb => by rw [e]; exact hh.ro b ob hb, hh.sep, hh.rsv⟩

theorem Step.of_same {ρ : Ren} {lo : Nat → Option Nat} {w w' : World} (e : w'.heap = w.heap) (ho : w'.os = w.os) (hp : w'.output = w.output) : Step ρ lo w ρ lo w' :=
  ⟨.refl ρ, still_of ho hp fun b => .inl (by rw [e]), by rw [e]; exact Nat.le_refl _, fun _ _ h h' => ⟨by rw [e], h, h', rfl⟩⟩

theorem RelA.of_same {n : Nat} {ρ : Ren} {lo : Nat → Option Nat} {st : St} {a : Act} {w w' : World} (hr : RelA n ρ lo st a w) (e : w'.heap = w.heap) (ho : w'.os = w.os) (hp : w'.output = w.output) : RelA n ρ lo st a w' :=
  (hr.lift (hr.h.of_same e) (Step.of_same e ho hp)).1

/-- A new object. -/
def Ren.add (ρ : Ren) (g : Img) : Ren where
  n := ρ.n + 1
  vers i := if i = ρ.n then 0 else ρ.vers i
  wr i := if i = ρ.n then some g else ρ.wr i
  ro := ρ.ro

theorem Le.add (ρ : Ren) (g : Img) : Le ρ (ρ.add g) where
  n := Nat.le_succ _
  vers id h := by simp [Ren.add, Nat.ne_of_lt h]
  wr id h _ g' hg := by simpa [Ren.add, Nat.ne_of_lt h] using hg
  ro _ _ h := h

theorem heap_push {w w' : World} {ob : Obj} (hw : w'.heap = w.heap.push ob) {b : Nat} (hb : b < w.heap.size) : w'.heap[b]? = w.heap[b]? := by
  rw [hw, Array.getElem?_push, if_neg (by omega)]

theorem add_rel {ρ : Ren} {h : H} {w w' : World} (hh : RelH ρ h w) {o : O} {ob : Obj} {size : Nat} (hpu : Pushes w w' ob) (hver : o.ver = 0)
    (hro : RelO ρ ⟨w.heap.size, 0, size⟩ o ob) : RelH (ρ.add ⟨w.heap.size, 0, size⟩) (h ++ [o]) w' ∧ Step ρ nol w (ρ.add ⟨w.heap.size, 0, size⟩) nol w' := by
  refine ⟨⟨by simp [Ren.add, hh.n], ?_, ?_, ?_, ?_, ?_, ?_⟩, ⟨Le.add ρ _, hpu.still hro.unfr, by rw [hpu.heap]; simp, ?_⟩⟩
  all_goals have hw := hpu.heap
  · intro id o' ho' hl
    by_cases e : id = ρ.n
    · exact ⟨⟨w.heap.size, 0, size⟩, by simp [Ren.add, e]⟩
    · have hlt : id < h.length := by
        have := (List.getElem?_eq_some_iff.1 ho').1
        have := hh.n
        simp at *; omega
      rw [List.getElem?_append_left hlt] at ho'
      obtain ⟨g, hg⟩ := hh.live id o' ho' hl
      exact ⟨g, by simp [Ren.add, e, hg]⟩
  · intro id g hg
    by_cases e : id = ρ.n
    · subst e
      simp [Ren.add] at hg
      subst hg
      refine ⟨o, ob, by rw [hh.n]; simp, by rw [hw]; simp, hro.mono (Le.add ρ _), by simp [Ren.add, hver]⟩
    · simp [Ren.add, e] at hg
      obtain ⟨o1, ob1, h1, h2, h3, h4⟩ := hh.obj id g hg
      have hlt : id < h.length := (List.getElem?_eq_some_iff.1 h1).1
      refine ⟨o1, ob1, by rw [List.getElem?_append_left hlt]; exact h1, ?_, h3.mono (Le.add ρ _), by simp [Ren.add, e, h4]⟩
      rw [heap_push hw (hh.blk_lt hg)]; exact h2
  · intro i j g g' hi hj hb
    by_cases e1 : i = ρ.n <;> by_cases e2 : j = ρ.n
    · omega
    · simp [Ren.add, e1] at hi; simp [Ren.add, e2] at hj; subst hi
      have := hh.blk_lt hj
      simp at hb; omega
    · simp [Ren.add, e1] at hi; simp [Ren.add, e2] at hj; subst hj
      have := hh.blk_lt hi
      simp at hb; omega
    · simp [Ren.add, e1] at hi; simp [Ren.add, e2] at hj
      exact hh.inj i j g g' hi hj hb
  · intro b ob' hb
    rw [heap_push hw (hh.ro_lt hb)]
    exact hh.ro b ob' hb
  · intro i g hg
    by_cases e : i = ρ.n
    · simp [Ren.add, e] at hg
      subst hg
      show ρ.ro w.heap.size = none
      cases hq : ρ.ro w.heap.size with
      | none => rfl
      | some x => have := hh.ro_lt hq; omega
    · simp [Ren.add, e] at hg
      exact hh.sep i g hg
  · intro id hid
    by_cases e : id = ρ.n
    · subst e
      rw [hh.n] at hid
      simp at hid
      subst hid
      exact hro.elim
    · have hlt : id < h.length := by
        have := (List.getElem?_eq_some_iff.1 hid).1
        have := hh.n
        simp at *; omega
      rw [List.getElem?_append_left hlt] at hid
      have := hh.rsv id hid
      simp [Ren.add, e, this]
  · intro b hb h1 _
    refine ⟨heap_push hw hb, ?_, fun _ => by simp [nol], rfl⟩
    intro i g hg
    by_cases e : i = ρ.n
    · simp [Ren.add, e] at hg
      subst hg
      show w.heap.size ≠ b
      omega
    · simp [Ren.add, e] at hg
      exact h1 i g hg

/-- New memory that is never written. -/
def Ren.addRo (ρ : Ren) (b : Nat) (ob : Obj) : Ren := { ρ with ro := fun i => if i = b then some ob else ρ.ro i }

theorem addRo_rel {ρ : Ren} {h : H} {w w' : World} (hh : RelH ρ h w) {ob : Obj} (hpu : Pushes w w' ob) (hu : unfr (some ob)) :
    RelH (ρ.addRo w.heap.size ob) h w' ∧ Step ρ nol w (ρ.addRo w.heap.size ob) nol w' := by
  have hle : Le ρ (ρ.addRo w.heap.size ob) := ⟨Nat.le_refl _, fun _ _ => Nat.le_refl _, fun _ _ _ _ h => h, fun b o hb => by
    have := hh.ro_lt hb
    show (if b = w.heap.size then _ else _) = _
    rw [if_neg (by omega)]; exact hb⟩
  refine ⟨⟨hh.n, hh.live, ?_, hh.inj, ?_, ?_, hh.rsv⟩, ⟨hle, hpu.still hu, by rw [hpu.heap]; simp, ?_⟩⟩
  all_goals have hw := hpu.heap
  · intro id g hg
    obtain ⟨o1, ob1, h1, h2, h3, h4⟩ := hh.obj id g hg
    exact ⟨o1, ob1, h1, by rw [heap_push hw (hh.blk_lt hg)]; exact h2, h3.mono hle, h4⟩
  · intro b ob' hb
    by_cases e : b = w.heap.size
    · subst e
      simp [Ren.addRo] at hb
      subst hb
      rw [hw]; simp
    · simp [Ren.addRo, e] at hb
      rw [heap_push hw (hh.ro_lt hb)]
      exact hh.ro b ob' hb
  · intro i g hg
    have := hh.blk_lt hg
    show (if g.blk = w.heap.size then _ else _) = _
    rw [if_neg (by omega)]
    exact hh.sep i g hg
  · intro b hb h1 _
    refine ⟨heap_push hw hb, h1, fun _ => by simp [nol], ?_⟩
    show (if b = w.heap.size then _ else _) = _
    rw [if_neg (by omega)]

/-- An object lives on elsewhere, under the next version. -/
def Ren.move (ρ : Ren) (id : Nat) (g : Img) : Ren :=
  { ρ with vers := fun i => if i = id then ρ.vers id + 1 else ρ.vers i, wr := fun i => if i = id then some g else ρ.wr i }

theorem Le.move {ρ : Ren} {id : Nat} {g : Img} : Le ρ (ρ.move id g) where
  n := Nat.le_refl _
  vers i _ := by by_cases e : i = id <;> simp [Ren.move, e]
  wr i _ hv g' hg := by
    by_cases e : i = id
    · simp [Ren.move, e] at hv
    · simpa [Ren.move, e] using hg
  ro _ _ h := h

theorem move_rel {ρ : Ren} {h : H} {w w' : World} (hh : RelH ρ h w) {id : Nat} {g g' : Img} (hg : ρ.wr id = some g) {v : Nat} {cs cs' : List V} (ho : h[id]? = some (.cells v cs))
    {ob' : Obj} (hw' : w'.heap[g'.blk]? = some ob') (hro : RelO ρ g' (.cells (v + 1) cs') ob')
    (hst : Still w w') (hsz : w.heap.size ≤ w'.heap.size) (hblk : g'.blk = g.blk ∨ w.heap.size ≤ g'.blk) (hoth : ∀ b, b < w.heap.size → b ≠ g.blk → w'.heap[b]? = w.heap[b]?) :
    RelH (ρ.move id g') (h.set id (.cells (v + 1) cs')) w' ∧ Step ρ nol w (ρ.move id g') nol w' := by
  have hlt : id < h.length := (List.getElem?_eq_some_iff.1 ho).1
  have hver : ρ.vers id = v := by
    obtain ⟨o1, ob1, h1, _, _, h4⟩ := hh.obj id g hg
    rw [ho] at h1; cases h1; exact h4
  refine ⟨⟨by simp [Ren.move, hh.n], ?_, ?_, ?_, ?_, ?_, ?_⟩, ⟨Le.move, hst, hsz, ?_⟩⟩
  · intro j o' hj hl
    by_cases e : j = id
    · exact ⟨g', by simp [Ren.move, e]⟩
    · rw [List.getElem?_set, if_neg (fun x => e x.symm)] at hj
      obtain ⟨g1, h1⟩ := hh.live j o' hj hl
      exact ⟨g1, by simp [Ren.move, e, h1]⟩
  · intro j g1 hj
    by_cases e : j = id
    · subst e
      simp [Ren.move] at hj
      subst hj
      refine ⟨_, ob', by rw [List.getElem?_set, if_pos rfl, if_pos hlt], hw', hro.mono Le.move, by simp [Ren.move, O.ver, hver]⟩
    · simp [Ren.move, e] at hj
      obtain ⟨o1, ob1, h1, h2, h3, h4⟩ := hh.obj j g1 hj
      refine ⟨o1, ob1, by rw [List.getElem?_set, if_neg (fun x => e x.symm)]; exact h1, ?_, h3.mono Le.move, by simp [Ren.move, e, h4]⟩
      rw [hoth _ (hh.blk_lt hj) (fun x => e (hh.inj j id g1 g hj hg x))]; exact h2
  · intro i j g1 g2 hi hj hb
    by_cases e1 : i = id <;> by_cases e2 : j = id
    · omega
    · simp [Ren.move, e1] at hi; simp [Ren.move, e2] at hj; subst hi
      have h1 := hh.blk_lt hj
      rcases hblk with hq | hq
      · exact absurd (hh.inj j id g2 g hj hg (by omega)) e2
      · omega
    · simp [Ren.move, e1] at hi; simp [Ren.move, e2] at hj; subst hj
      have h1 := hh.blk_lt hi
      rcases hblk with hq | hq
      · exact absurd (hh.inj i id g1 g hi hg (by omega)) e1
      · omega
    · simp [Ren.move, e1] at hi; simp [Ren.move, e2] at hj
      exact hh.inj i j g1 g2 hi hj hb
  · intro b ob hb
    have hb' : ρ.ro b = some ob := hb
    rw [hoth b (hh.ro_lt hb') (fun e => by subst e; have := hh.sep id g hg; rw [hb'] at this; cases this)]
    exact hh.ro b ob hb'
  · intro i g1 hi
    by_cases e : i = id
    · simp [Ren.move, e] at hi
      subst hi
      show ρ.ro g'.blk = none
      rcases hblk with hq | hq
      · rw [hq]; exact hh.sep id g hg
      · cases hq' : ρ.ro g'.blk with
        | none => rfl
        | some x => have := hh.ro_lt hq'; omega
    · simp [Ren.move, e] at hi
      exact hh.sep i g1 hi
  · intro j hj
    by_cases e : id = j
    · subst e
      rw [List.getElem?_set, if_pos rfl, if_pos hlt] at hj
      cases hj
    · rw [List.getElem?_set, if_neg e] at hj
      have := hh.rsv j hj
      simp [Ren.move, Ne.symm e, this]
  · intro b hb h1 _
    refine ⟨hoth b hb (fun e => h1 id g hg e.symm), ?_, fun _ => by simp [nol], rfl⟩
    intro i g1 hi
    by_cases e : i = id
    · simp [Ren.move, e] at hi
      subst hi
      rcases hblk with hq | hq
      · rw [hq]; exact h1 id g hg
      · omega
    · simp [Ren.move, e] at hi
      exact h1 i g1 hi

/-- New memory in a place that was kept for it. -/
theorem fill_rel {ρ : Ren} {h : H} {w w' : World} (hh : RelH ρ h w) {id : Nat} (hid : h[id]? = some .rsv) {cs : List V} {ob : Obj} {size : Nat} (hpu : Pushes w w' ob)
    (hro : RelO ρ ⟨w.heap.size, 0, size⟩ (.cells 1 cs) ob) : RelH (ρ.move id ⟨w.heap.size, 0, size⟩) (h.set id (.cells 1 cs)) w' ∧ Step ρ nol w (ρ.move id ⟨w.heap.size, 0, size⟩) nol w' := by
  have hlt : id < h.length := (List.getElem?_eq_some_iff.1 hid).1
  obtain ⟨hwn, hvn⟩ := hh.rsv id hid
  have hw := hpu.heap
  refine ⟨⟨by simp [Ren.move, hh.n], ?_, ?_, ?_, ?_, ?_, ?_⟩, ⟨Le.move, hpu.still hro.unfr, by rw [hpu.heap]; simp, ?_⟩⟩
  · intro j o' hj hl
    by_cases e : j = id
    · exact ⟨_, by simp [Ren.move, e]; rfl⟩
    · rw [List.getElem?_set, if_neg (fun x => e x.symm)] at hj
      obtain ⟨g1, h1⟩ := hh.live j o' hj hl
      exact ⟨g1, by simp [Ren.move, e, h1]⟩
  · intro j g1 hj
    by_cases e : j = id
    · subst e
      simp [Ren.move] at hj
      subst hj
      refine ⟨_, ob, by rw [List.getElem?_set, if_pos rfl, if_pos hlt], by rw [hw]; simp, hro.mono Le.move, by simp [Ren.move, O.ver, hvn]⟩
    · simp [Ren.move, e] at hj
      obtain ⟨o1, ob1, h1, h2, h3, h4⟩ := hh.obj j g1 hj
      refine ⟨o1, ob1, by rw [List.getElem?_set, if_neg (fun x => e x.symm)]; exact h1, ?_, h3.mono Le.move, by simp [Ren.move, e, h4]⟩
      rw [heap_push hw (hh.blk_lt hj)]; exact h2
  · intro i j g1 g2 hi hj hb
    by_cases e1 : i = id <;> by_cases e2 : j = id
    · omega
    · simp [Ren.move, e1] at hi; simp [Ren.move, e2] at hj; subst hi
      have h1 := hh.blk_lt hj
      simp at hb; omega
    · simp [Ren.move, e1] at hi; simp [Ren.move, e2] at hj; subst hj
      have h1 := hh.blk_lt hi
      simp at hb; omega
    · simp [Ren.move, e1] at hi; simp [Ren.move, e2] at hj
      exact hh.inj i j g1 g2 hi hj hb
  · intro b ob' hb
    have hb' : ρ.ro b = some ob' := hb
    rw [heap_push hw (hh.ro_lt hb')]
    exact hh.ro b ob' hb'
  · intro i g1 hi
    by_cases e : i = id
    · simp [Ren.move, e] at hi
      subst hi
      show ρ.ro w.heap.size = none
      cases hq : ρ.ro w.heap.size with
      | none => rfl
      | some x => have := hh.ro_lt hq; omega
    · simp [Ren.move, e] at hi
      exact hh.sep i g1 hi
  · intro j hj
    by_cases e : id = j
    · subst e
      rw [List.getElem?_set, if_pos rfl, if_pos hlt] at hj
      cases hj
    · rw [List.getElem?_set, if_neg e] at hj
      have := hh.rsv j hj
      simp [Ren.move, Ne.symm e, this]
  · intro b hb h1 _
    refine ⟨heap_push hw hb, ?_, fun _ => by simp [nol], rfl⟩
    intro i g1 hi
    by_cases e : i = id
    · simp [Ren.move, e] at hi
      subst hi
      show w.heap.size ≠ b
      omega
    · simp [Ren.move, e] at hi
      exact h1 i g1 hi

/-- Places that are kept. -/
def Ren.keep (ρ : Ren) (k : Nat) : Ren := { ρ with n := ρ.n + k, vers := fun i => if i < ρ.n then ρ.vers i else 0 }

theorem keep_rel {ρ : Ren} {h : H} {w : World} (hh : RelH ρ h w) (k : Nat) : RelH (ρ.keep k) (h ++ List.replicate k .rsv) w ∧ Step ρ nol w (ρ.keep k) nol w := by
  have hle : Le ρ (ρ.keep k) := ⟨Nat.le_add_right _ _, fun i hi => by simp [Ren.keep, hi], fun i hi _ g hg => hg, fun _ _ h => h⟩
  have hn := hh.n
  refine ⟨⟨by simp [Ren.keep, hn], ?_, ?_, hh.inj, hh.ro, hh.sep, ?_⟩, ⟨hle, .refl w, Nat.le_refl _, fun b hb h1 _ => ⟨rfl, h1, fun _ => by simp [nol], rfl⟩⟩⟩
  · intro id o ho hl
    by_cases e : id < h.length
    · rw [List.getElem?_append_left e] at ho
      exact hh.live id o ho hl
    · rw [List.getElem?_append_right (by omega), List.getElem?_replicate] at ho
      split at ho
      · cases ho; cases hl
      · cases ho
  · intro id g hg
    obtain ⟨o, ob, h1, h2, h3, h4⟩ := hh.obj id g hg
    have hlt : id < h.length := (List.getElem?_eq_some_iff.1 h1).1
    refine ⟨o, ob, by rw [List.getElem?_append_left hlt]; exact h1, h2, h3.mono hle, ?_⟩
    show (if id < ρ.n then ρ.vers id else 0) = _
    rw [if_pos (by omega)]; exact h4
  · intro id hid
    by_cases e : id < h.length
    · rw [List.getElem?_append_left e] at hid
      obtain ⟨k1, k2⟩ := hh.rsv id hid
      refine ⟨k1, ?_⟩
      show (if id < ρ.n then ρ.vers id else 0) = 0
      rw [if_pos (by omega)]; exact k2
    · refine ⟨?_, ?_⟩
      · show ρ.wr id = none
        cases hw : ρ.wr id with
        | none => rfl
        | some g =>
          obtain ⟨o, ob, h1, _⟩ := hh.obj id g hw
          exact absurd (List.getElem?_eq_some_iff.1 h1).1 e
      · show (if id < ρ.n then ρ.vers id else 0) = 0
        rw [if_neg (by omega)]

/-- An object is written no more. -/
def Ren.freeze (ρ : Ren) (id b : Nat) (ob : Obj) : Ren :=
  { ρ with wr := fun i => if i = id then none else ρ.wr i, ro := fun i => if i = b then some ob else ρ.ro i }

theorem freeze_rel {ρ : Ren} {h : H} {w : World} (hh : RelH ρ h w) {id : Nat} {g : Img} (hg : ρ.wr id = some g) {ob : Obj} (hob : w.heap[g.blk]? = some ob) :
    RelH (ρ.freeze id g.blk ob) (h.set id .dead) w ∧ Step ρ nol w (ρ.freeze id g.blk ob) nol w := by
  have hle : Le ρ (ρ.freeze id g.blk ob) := by
    refine ⟨Nat.le_refl _, fun _ _ => Nat.le_refl _, fun i _ _ g' h => ?_, fun b o hb => ?_⟩
    · by_cases e : i = id
      · simp [Ren.freeze, e] at h
      · simpa [Ren.freeze, e] using h
    · show (if b = g.blk then _ else _) = _
      rw [if_neg (fun e => by subst e; have := hh.sep id g hg; rw [hb] at this; cases this)]; exact hb
  refine ⟨⟨by simp [Ren.freeze, hh.n], ?_, ?_, ?_, ?_, ?_, ?_⟩, ⟨hle, .refl w, Nat.le_refl _, ?_⟩⟩
  · intro j o' hj hl
    by_cases e : j = id
    · subst e
      rw [List.getElem?_set, if_pos rfl] at hj
      split at hj
      · cases hj; cases hl
      · cases hj
    · rw [List.getElem?_set, if_neg (fun x => e x.symm)] at hj
      obtain ⟨g1, h1⟩ := hh.live j o' hj hl
      exact ⟨g1, by simp [Ren.freeze, e, h1]⟩
  · intro j g1 hj
    by_cases e : j = id
    · simp [Ren.freeze, e] at hj
    · simp [Ren.freeze, e] at hj
      obtain ⟨o1, ob1, h1, h2, h3, h4⟩ := hh.obj j g1 hj
      exact ⟨o1, ob1, by rw [List.getElem?_set, if_neg (fun x => e x.symm)]; exact h1, h2, h3.mono hle, h4⟩
  · intro i j g1 g2 hi hj hb
    by_cases e1 : i = id <;> by_cases e2 : j = id
    · omega
    · simp [Ren.freeze, e1] at hi
    · simp [Ren.freeze, e2] at hj
    · simp [Ren.freeze, e1] at hi; simp [Ren.freeze, e2] at hj
      exact hh.inj i j g1 g2 hi hj hb
  · intro b ob' hb
    by_cases e : b = g.blk
    · simp [Ren.freeze, e] at hb
      subst hb; rw [e]; exact hob
    · simp [Ren.freeze, e] at hb
      exact hh.ro b ob' hb
  · intro i g1 hi
    by_cases e : i = id
    · simp [Ren.freeze, e] at hi
    · simp [Ren.freeze, e] at hi
      show (if g1.blk = g.blk then _ else _) = _
      rw [if_neg (fun x => e (hh.inj i id g1 g hi hg x))]
      exact hh.sep i g1 hi
  · intro j hj
    by_cases e : id = j
    · subst e
      rw [List.getElem?_set, if_pos rfl] at hj
      split at hj
      · cases hj
      · cases hj
    · rw [List.getElem?_set, if_neg e] at hj
      have := hh.rsv j hj
      simp [Ren.freeze, Ne.symm e, this]
  · intro b hb h1 _
    refine ⟨rfl, ?_, fun _ => by simp [nol], ?_⟩
    · intro i g1 hi
      by_cases e : i = id
      · simp [Ren.freeze, e] at hi
      · simp [Ren.freeze, e] at hi
        exact h1 i g1 hi
    · show (if b = g.blk then _ else _) = _
      rw [if_neg (fun e => h1 id g hg e.symm)]

theorem chunks_length (es : Nat) : ∀ (n : Nat) (cs : List V), (chunks es n cs).length = n
  | 0, _ => rfl
  | n + 1, cs => by simp [chunks, chunks_length es n]

theorem chunks_get (es : Nat) : ∀ (n : Nat) (cs : List V) (i : Nat) (v : V), (chunks es n cs)[i]? = some v →
    i < n ∧ v = (if es = 1 then ((cs.drop (i * es)).headD default) else .agg ((cs.drop (i * es)).take es))
  | 0, _, i, v, h => by simp [chunks] at h
  | n + 1, cs, i, v, h => by
    cases i with
    | zero => simp [chunks] at h; simp [h]
    | succ i =>
      simp [chunks] at h
      obtain ⟨h1, h2⟩ := chunks_get es n (cs.drop es) i v h
      refine ⟨by omega, ?_⟩
      rw [h2, List.drop_drop, Nat.add_mul, Nat.one_mul, Nat.add_comm es]

theorem cells_of_one {ρ : Ren} {v : V} {y : Value} (h : RelV ρ v y) (h1 : y.oneCell' = true) : v.cells = [v] := by
  cases h <;> first | rfl | (simp [Value.oneCell'] at h1)

/-- The freeze of a slice. -/
theorem hfreeze_rel {ρ : Ren} {h h' : H} {w : World} (hh : RelH ρ h w) {s v : V} {x : Value} (hs : RelV ρ s x) {es : Nat} (hf : hfreeze h s es = some (v, h')) (hes : es ≠ 0) :
    ∃ ρ', RelH ρ' h' w ∧ Step ρ nol w ρ' nol w ∧ RelV ρ' v x := by
  unfold hfreeze at hf
  split at hf
  · cases hf
    cases hs
    exact ⟨ρ, hh, Step.refl _ _ _, .rs0 es none 0 (fun _ => rfl)⟩
  · split at hf
    · rename_i he
      cases hf; subst he
      exact ⟨ρ, hh, Step.refl _ _ _, hs⟩
    · cases hf
  · rename_i id ver off len es' cap
    split at hf
    · rename_i he
      subst he
      split at hf
      · rename_i vv cs hid
        split at hf
        · rename_i hv
          subst hv
          split at hf
          · rename_i hle
            cases hf
            obtain ⟨g, hg⟩ := hh.live id _ hid rfl
            obtain ⟨o, ob, ho, hwb, hro, hver⟩ := hh.obj id g hg
            rw [hid] at ho
            cases ho
            cases ob with
            | cells c e fr =>
              obtain ⟨hfr, hfs⟩ := freeze_rel hh hg hwb
              refine ⟨_, hfr, hfs, ?_⟩
              have hsm := RelV.mono hfs.le hs
              obtain ⟨hcs, hcl, hf0, hcc⟩ := hro
              cases hs with
              | sl _ _ _ _ _ _ ad rc h1 h2 h3 h4 h5 =>
                by_cases hlen : len = 0
                · subst hlen
                  exact .rs0 es' (some ad) rc (by simp)
                · obtain ⟨ha, hroom⟩ := h5 g hver.symm hg (by omega)
                  subst ha
                  have hl := chunks_length es' len (cs.drop off)
                  have hcell : ∀ (k : Nat) (y : Value), k < len * es' → c[g.base + off + k]? = some y → ∃ v, cs[off + k]? = some v ∧ RelV ρ v y ∧ y.oneCell' = true := by
                    intro k y hk hy
                    have hk' : off + k < cs.length := by omega
                    refine ⟨cs[off + k], List.getElem?_eq_getElem hk', ?_⟩
                    exact hcc (off + k) _ y (List.getElem?_eq_getElem hk') (by rw [← hy]; congr 1; omega)
                  have key := RelV.rs (ρ := ρ.freeze id g.blk (.cells c e fr)) es' (chunks es' len (cs.drop off)) g.blk (g.base + off) c e fr rc (by omega)
                    (by simp [Ren.freeze]) (by rw [hl]; omega) ?_ ?_ ?_
                  · rw [hl] at key; exact key
                  · intro v hv
                    obtain ⟨i, hi⟩ := List.getElem?_of_mem hv
                    obtain ⟨hin, hve⟩ := chunks_get _ _ _ _ _ hi
                    have hm : (i + 1) * es' ≤ len * es' := Nat.mul_le_mul_right _ hin
                    rw [Nat.add_mul, Nat.one_mul] at hm
                    by_cases e1 : es' = 1
                    · subst e1
                      simp only [Nat.mul_one, if_true] at hve
                      have hi2 : off + i < cs.length := by omega
                      have hcy : g.base + off + i < c.size := by omega
                      obtain ⟨v2, hv2, hr2, ho2⟩ := hcell i c[g.base + off + i] (by omega) (Array.getElem?_eq_getElem hcy)
                      have : v = v2 := by
                        rw [hve, List.drop_drop, List.headD_eq_head?_getD, List.head?_drop, hv2]; rfl
                      subst this
                      rw [cells_of_one hr2 ho2]; rfl
                    · rw [if_neg e1] at hve
                      subst hve
                      simp [V.cells]; omega
                  · intro i v j y x hi hj hx
                    obtain ⟨hin, hve⟩ := chunks_get _ _ _ _ _ hi
                    have hm : (i + 1) * es' ≤ len * es' := Nat.mul_le_mul_right _ hin
                    rw [Nat.add_mul, Nat.one_mul] at hm
                    have hxlt : g.base + off + i * es' + j < c.size := (Array.getElem?_eq_some_iff.1 hx).1
                    by_cases e1 : es' = 1
                    · subst e1
                      simp only [Nat.mul_one, if_true] at hve hx
                      have hcy : g.base + off + i < c.size := by omega
                      obtain ⟨v2, hv2, hr2, ho2⟩ := hcell i c[g.base + off + i] (by omega) (Array.getElem?_eq_getElem hcy)
                      have : v = v2 := by
                        rw [hve, List.drop_drop, List.headD_eq_head?_getD, List.head?_drop, hv2]; rfl
                      subst this
                      rw [cells_of_one hr2 ho2] at hj
                      cases j with
                      | zero =>
                        simp at hj; subst hj
                        rw [Nat.add_zero, Array.getElem?_eq_getElem hcy] at hx
                        cases hx
                        exact RelV.mono hfs.le hr2
                      | succ j => simp at hj
                    · rw [if_neg e1] at hve
                      subst hve
                      simp only [V.cells] at hj
                      rw [List.getElem?_take] at hj
                      split at hj
                      · rename_i hjl
                        rw [List.drop_drop, List.getElem?_drop] at hj
                        obtain ⟨v2, hv2, hr2, ho2⟩ := hcell (i * es' + j) x (by omega) (by rw [← hx]; congr 1; omega)
                        have : y = v2 := by
                          have e2 : off + i * es' + j = off + (i * es' + j) := by omega
                          rw [e2, hv2] at hj; cases hj; rfl
                        subst this
                        exact RelV.mono hfs.le hr2
                      · cases hj
                  · intro k y hk hy
                    rw [hl] at hk
                    obtain ⟨_, _, _, ho2⟩ := hcell k y hk hy
                    exact ho2
            | _ => exact hro.elim
          · cases hf
        · cases hf
      · cases hf
    · cases hf
  · cases hf

end
end Go.L
