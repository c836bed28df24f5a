/- Reads and writes: ours and the machine's. -/
import Derived.Test.YtkhnngghmlpbeaaGreatL3
import Derived.Laws.Cells
import Derived.Laws.Entries
import Derived.Laws.Tables
import Derived.Laws.CopyRow
import Derived.Lib.FrozenHead
namespace Go.L
noncomputable section

theorem add_none (b off i : Nat) : (⟨b, off, none⟩ : Addr).add i = ⟨b, off + i, none⟩ := by
  unfold Addr.add; split <;> simp_all

theorem cell_of {w : World} {b : Nat} {c : Array Value} {e : TypeId} {fr : Nat × Nat} (h : w.heap[b]? = some (.cells c e fr)) (o : Nat) :
    w.cell? ⟨b, o, none⟩ = c[o]? := by
  simp [World.cell?, h]

def RelL (ρ : Ren) (vs : List V) (ys : List Value) : Prop :=
  vs.length = ys.length ∧ ∀ (i : Nat) (v : V) (y : Value), vs[i]? = some v → ys[i]? = some y → RelV ρ v y ∧ y.oneCell' = true

theorem RelL.one {ρ : Ren} {vs : List V} {ys : List Value} (h : RelL ρ vs ys) : ∀ y ∈ ys, y.oneCell' = true := by
  intro y hy
  obtain ⟨i, hi, rfl⟩ := List.getElem_of_mem hy
  have hi' : i < vs.length := by rw [h.1]; exact hi
  exact (h.2 i vs[i] ys[i] (List.getElem?_eq_getElem hi') (List.getElem?_eq_getElem hi)).2

theorem RelL.agg {ρ : Ren} {vs : List V} {ys : List Value} (h : RelL ρ vs ys) : RelV ρ (.agg vs) (.agg ys.toArray) := by
  refine .agg vs ys.toArray (by simp [h.1]) (fun i v x hv hx => (h.2 i v x hv (by simpa using hx)).1) (fun i x hx => ?_)
  have hx' : ys[i]? = some x := by simpa using hx
  exact h.one x (List.mem_of_getElem? hx')

theorem relL_of_agg {ρ : Ren} {vs : List V} {xs : Array Value} (h : RelV ρ (.agg vs) (.agg xs)) : RelL ρ vs xs.toList := by
  cases h with
  | agg _ _ h1 h2 h3 => exact ⟨by simp [h1], fun i v y hv hy => ⟨h2 i v y hv (by simpa using hy), h3 i y (by simpa using hy)⟩⟩

theorem agg_inv {ρ : Ren} {vs : List V} {x : Value} (h : RelV ρ (.agg vs) x) : ∃ ys : List Value, x = .agg ys.toArray ∧ RelL ρ vs ys := by
  cases h with
  | agg _ xs h1 h2 h3 => exact ⟨xs.toList, by simp, relL_of_agg (.agg _ _ h1 h2 h3)⟩

/-- One cell that is read. -/
theorem rd_rel {ρ : Ren} {h : H} {w : World} (hh : RelH ρ h w) {p : V} {x : Value} (hp : RelV ρ p x) {i : Nat} {v : V} (hr : rd h p i = some v) :
    ∃ a y, x = .pointer (some a) ∧ w.cell? (a.add i) = some y ∧ RelV ρ v y ∧ y.oneCell' = true := by
  unfold rd at hr
  split at hr
  · rename_i id ver off
    split at hr
    · rename_i vv cs hid
      split at hr
      · rename_i hv
        subst hv
        obtain ⟨g, hg⟩ := hh.live id _ hid rfl
        obtain ⟨o, ob, ho, hw, hro, hver⟩ := hh.obj id g hg
        rw [hid] at ho
        cases ho
        cases hp with
        | ptr _ _ _ a h1 h2 h3 =>
          have ha := h3 g hver.symm hg
          subst ha
          cases ob with
          | cells c e fr =>
            obtain ⟨hs, hl, hf, hc⟩ := hro
            have hlt : off + i < cs.length := (List.getElem?_eq_some_iff.1 hr).1
            have hlt' : g.base + (off + i) < c.size := by omega
            obtain ⟨h5, h6⟩ := hc (off + i) v c[g.base + (off + i)] hr (Array.getElem?_eq_getElem hlt')
            refine ⟨_, c[g.base + (off + i)], rfl, ?_, h5, h6⟩
            rw [add_none, cell_of hw, Nat.add_assoc, Array.getElem?_eq_getElem hlt']
          | _ => exact hro.elim
      · cases hr
    · cases hr
  · rename_i cs
    cases hp with
    | rptr _ b off c e fr h1 h2 h3 h4 =>
      have hlt : i < cs.length := (List.getElem?_eq_some_iff.1 hr).1
      have hlt' : off + i < c.size := h2 i hlt
      have hc := Array.getElem?_eq_getElem hlt'
      refine ⟨_, c[off + i], rfl, ?_, h3 i v _ hr hc, h4 i _ hlt hc⟩
      rw [add_none, cell_of (hh.ro b _ h1), hc]
  · cases hr

theorem rdN_rd {h : H} {p : V} {n : Nat} {vs : List V} (hr : rdN h p n = some vs) : vs.length = n ∧ ∀ (j : Nat) (v : V), vs[j]? = some v → rd h p j = some v := by
  unfold rdN at hr
  split at hr
  · rename_i id ver off
    split at hr
    · rename_i vv cs hid
      split at hr
      · rename_i hv
        split at hr
        · rename_i hle
          cases hr
          refine ⟨by simp; omega, fun j v hj => ?_⟩
          simp only [rd, hid, hv, if_true]
          rw [List.getElem?_take] at hj
          split at hj
          · rwa [List.getElem?_drop] at hj
          · cases hj
        · cases hr
      · cases hr
    · cases hr
  · rename_i cs
    split at hr
    · rename_i hle
      cases hr
      refine ⟨by simp; omega, fun j v hj => ?_⟩
      simp only [rd]
      rw [List.getElem?_take] at hj
      split at hj
      · exact hj
      · cases hj
    · cases hr
  · cases hr

/-- Cells behind an address. -/
def RdsAt (ρ : Ren) (w : World) (a : Addr) (vs : List V) : Prop :=
  ∃ ys : List Value, RelL ρ vs ys ∧ ∀ (j : Nat) (y : Value), ys[j]? = some y → w.cell? (a.add j) = some y

theorem rds_of {ρ : Ren} {w : World} {x : Value} {vs : List V} (hne : vs ≠ [])
    (h : ∀ (j : Nat) (v : V), vs[j]? = some v → ∃ a y, x = .pointer (some a) ∧ w.cell? (a.add j) = some y ∧ RelV ρ v y ∧ y.oneCell' = true) :
    ∃ a, x = .pointer (some a) ∧ RdsAt ρ w a vs := by
  have h0 : 0 < vs.length := List.length_pos_iff.2 hne
  obtain ⟨a, _, ha, _⟩ := h 0 vs[0] (List.getElem?_eq_getElem h0)
  refine ⟨a, ha, ?_⟩
  have hall : ∀ j, j < vs.length → ∃ y, w.cell? (a.add j) = some y ∧ ∀ v, vs[j]? = some v → RelV ρ v y ∧ y.oneCell' = true := by
    intro j hj
    obtain ⟨a', y, ha', hc, hr, ho⟩ := h j vs[j] (List.getElem?_eq_getElem hj)
    rw [ha] at ha'
    cases ha'
    refine ⟨y, hc, fun v hv => ?_⟩
    rw [List.getElem?_eq_getElem hj] at hv
    cases hv
    exact ⟨hr, ho⟩
  refine ⟨(List.range vs.length).map fun j => (w.cell? (a.add j)).getD undef, ⟨by simp, fun i v y hv hy => ?_⟩, fun j y hy => ?_⟩
  · have hi : i < vs.length := (List.getElem?_eq_some_iff.1 hv).1
    obtain ⟨z, hz, hz'⟩ := hall i hi
    simp [hi, hz] at hy
    subst hy
    exact hz' v hv
  · have hj : j < vs.length := by
      have := (List.getElem?_eq_some_iff.1 hy).1
      simpa using this
    obtain ⟨z, hz, _⟩ := hall j hj
    simp [hj, hz] at hy
    subst hy
    exact hz

theorem get_rel {n : Nat} {ρ : Ren} {lo : Nat → Option Nat} {st : St} {a : Act} {w : World} (hr : RelA n ρ lo st a w) {p : S} {x : Value} (hp : RelS ρ lo p x)
    {i : Nat} {v : V} (hg : st.get p i = some v) : ∃ ad y, x = .pointer (some ad) ∧ w.cell? (ad.add i) = some y ∧ RelV ρ v y ∧ y.oneCell' = true := by
  cases p with
  | v p => exact rd_rel hr.h hp hg
  | p p => exact rd_rel hr.h hp.1 hg
  | bad => simp [St.get] at hg
  | un => simp [St.get] at hg
  | lp t off =>
    obtain ⟨b, hb, rfl⟩ := hp
    simp only [St.get] at hg
    split at hg
    · rename_i cs hcs
      obtain ⟨b', ob, hb', hw, hc⟩ := hr.l t cs hcs
      rw [hb] at hb'
      cases hb'
      cases ob with
      | cells c e fr =>
        obtain ⟨h1, _, h3⟩ := hc
        have hlt : off + i < cs.length := (List.getElem?_eq_some_iff.1 hg).1
        have hlt' : off + i < c.size := by omega
        obtain ⟨h5, h6⟩ := h3 (off + i) v c[off + i] hg (Array.getElem?_eq_getElem hlt')
        refine ⟨_, c[off + i], rfl, ?_, h5, h6⟩
        rw [add_none, cell_of hw, Array.getElem?_eq_getElem hlt']
      | _ => exact hc.elim
    · cases hg

theorem getN_get {st : St} {p : S} {n : Nat} {vs : List V} (h : st.getN p n = some vs) : vs.length = n ∧ ∀ (j : Nat) (v : V), vs[j]? = some v → st.get p j = some v := by
  cases p with
  | v p => exact rdN_rd h
  | p p => exact rdN_rd h
  | bad => simp [St.getN] at h
  | un => simp [St.getN] at h
  | lp t off =>
    simp only [St.getN] at h
    split at h
    · rename_i cs hcs
      split at h
      · rename_i hle
        cases h
        refine ⟨by simp; omega, fun j v hj => ?_⟩
        simp only [St.get, hcs]
        rw [List.getElem?_take] at hj
        split at hj
        · rwa [List.getElem?_drop] at hj
        · cases hj
      · cases h
    · cases h

/- Inversion of the typed reads. -/
theorem asInt_inv {k : IntKind} {o : Option V} {n : Int} (h : asInt k o = some n) : o = some (.int k n) := by
  unfold asInt at h
  split at h
  · split at h
    · rename_i hk; cases h; subst hk; rfl
    · cases h
  · cases h
theorem asBool_inv {o : Option V} {b : Bool} (h : asBool o = some b) : o = some (.bool b) := by
  unfold asBool at h
  split at h
  · cases h; rfl
  · cases h
theorem asStr_inv {o : Option V} {s : ByteArray} (h : asStr o = some s) : o = some (.str s) := by
  unfold asStr at h
  split at h
  · cases h; rfl
  · cases h
theorem asFloat_inv {k : FloatKind} {o : Option V} {b : Nat} (h : asFloat k o = some b) : o = some (.float k b) := by
  unfold asFloat at h
  split at h
  · split at h
    · rename_i hk; cases h; subst hk; rfl
    · cases h
  · cases h
theorem asCplx_inv {k : FloatKind} {o : Option V} {c : Nat × Nat} (h : asCplx k o = some c) : o = some (.cplx k c.1 c.2) := by
  unfold asCplx at h
  split at h
  · split at h
    · rename_i hk; cases h; subst hk; rfl
    · cases h
  · cases h
theorem asAgg_inv {n : Nat} {o : Option V} {cs : List V} (h : asAgg n o = some cs) : o = some (.agg cs) ∧ cs.length = n := by
  unfold asAgg at h
  split at h
  · split at h
    · rename_i hk; cases h; exact ⟨rfl, hk⟩
    · cases h
  · cases h
theorem asTup_inv {n : Nat} {o : Option V} {cs : List V} (h : asTup n o = some cs) : o = some (.tup cs) ∧ cs.length = n := by
  unfold asTup at h
  split at h
  · split at h
    · rename_i hk; cases h; exact ⟨rfl, hk⟩
    · cases h
  · cases h

theorem dest_inv {R : Type} {l : LK} {o : Option V} {K : V → Option R} {r : R} (h : l.dest o K = some r) : ∃ v, o = some v ∧ K v = some r := by
  cases l <;> simp only [LK.dest, Option.bind_eq_some_iff] at h
  · obtain ⟨n, hn, h⟩ := h; exact ⟨_, asInt_inv hn, h⟩
  · obtain ⟨n, hn, h⟩ := h; exact ⟨_, asBool_inv hn, h⟩
  · obtain ⟨n, hn, h⟩ := h; exact ⟨_, asStr_inv hn, h⟩
  · obtain ⟨n, hn, h⟩ := h; exact ⟨_, asFloat_inv hn, h⟩
  · obtain ⟨n, hn, h⟩ := h; exact ⟨_, asCplx_inv hn, h⟩
  · exact h

theorem rdLs_inv {R : Type} : ∀ {ls : List LK} {get : Nat → Option V} {i : Nat} {K : List V → Option R} {r : R}, rdLs ls get i K = some r →
    ∃ vs, vs.length = ls.length ∧ (∀ (j : Nat) (v : V), vs[j]? = some v → get (i + j) = some v) ∧ K vs = some r
  | [], get, i, K, r, h => ⟨[], rfl, by simp, h⟩
  | l :: ls, get, i, K, r, h => by
    simp only [rdLs] at h
    obtain ⟨v, hv, h⟩ := dest_inv h
    obtain ⟨vs, h1, h2, h3⟩ := rdLs_inv h
    refine ⟨v :: vs, by simp [h1], fun j u hj => ?_, h3⟩
    cases j with
    | zero => simp at hj; subst hj; exact hv
    | succ j => simp at hj; have := h2 j u hj; rw [show i + (j + 1) = i + 1 + j by omega]; exact this

theorem tyDest1_inv {R : Type} {t : TY} {o : Option V} {K : V → Option R} {r : R} (h : tyDest1 t o K = some r) : ∃ v, o = some v ∧ K v = some r := by
  cases t with
  | leaf l => exact dest_inv h
  | strt ls =>
    simp only [tyDest1, Option.bind_eq_some_iff] at h
    obtain ⟨vs, hvs, h⟩ := h
    obtain ⟨h1, h2⟩ := asAgg_inv hvs
    obtain ⟨us, h3, h4, h5⟩ := rdLs_inv h
    have : us = vs := by
      apply List.ext_getElem?
      intro j
      by_cases hj : j < us.length
      · have := h4 j us[j] (List.getElem?_eq_getElem hj)
        rw [List.getElem?_eq_getElem hj, ← this, Nat.zero_add]
      · rw [List.getElem?_eq_none (by omega), List.getElem?_eq_none (by omega)]
    subst this
    exact ⟨_, h1, h5⟩
  | blk n =>
    simp only [tyDest1, Option.bind_eq_some_iff] at h
    obtain ⟨vs, hvs, h⟩ := h
    exact ⟨_, (asAgg_inv hvs).1, h⟩
  | tup _ => simp [tyDest1] at h
  | no => simp [tyDest1] at h

theorem tupDest_inv {R : Type} : ∀ {ts : List TY} {get : Nat → Option V} {i : Nat} {K : List V → Option R} {r : R}, tupDest ts get i K = some r →
    ∃ vs, vs.length = ts.length ∧ (∀ (j : Nat) (v : V), vs[j]? = some v → get (i + j) = some v) ∧ K vs = some r
  | [], get, i, K, r, h => ⟨[], rfl, by simp, h⟩
  | l :: ls, get, i, K, r, h => by
    simp only [tupDest] at h
    obtain ⟨v, hv, h⟩ := tyDest1_inv h
    obtain ⟨vs, h1, h2, h3⟩ := tupDest_inv h
    refine ⟨v :: vs, by simp [h1], fun j u hj => ?_, h3⟩
    cases j with
    | zero => simp at hj; subst hj; exact hv
    | succ j => simp at hj; have := h2 j u hj; rw [show i + (j + 1) = i + 1 + j by omega]; exact this

theorem tyDest_inv {R : Type} {t : TY} {o : Option V} {K : V → Option R} {r : R} (h : tyDest t o K = some r) : ∃ v, o = some v ∧ K v = some r := by
  cases t with
  | tup ts =>
    simp only [tyDest, Option.bind_eq_some_iff] at h
    obtain ⟨vs, hvs, h⟩ := h
    obtain ⟨h1, h2⟩ := asTup_inv hvs
    obtain ⟨us, h3, h4, h5⟩ := tupDest_inv h
    have : us = vs := by
      apply List.ext_getElem?
      intro j
      by_cases hj : j < us.length
      · have := h4 j us[j] (List.getElem?_eq_getElem hj)
        rw [List.getElem?_eq_getElem hj, ← this, Nat.zero_add]
      · rw [List.getElem?_eq_none (by omega), List.getElem?_eq_none (by omega)]
    subst this
    exact ⟨_, h1, h5⟩
  | leaf l => exact tyDest1_inv (t := .leaf l) h
  | strt ls => exact tyDest1_inv (t := .strt ls) h
  | blk n => exact tyDest1_inv (t := .blk n) h
  | no => exact tyDest1_inv (t := .no) h

/- Kinds of types. -/
def aggTy (d : TypeDesc) : Bool :=
  match d with
  | .struct _ | .array _ _ => true
  | _ => false

theorem leaf1_inv {P : Program} {t : TypeId} {l l' : LK} (h : leaf1 P t l = .leaf l') : P.cellsOf t = 1 := by
  unfold leaf1 at h
  split at h
  · assumption
  · cases h

theorem leaf1_ne {P : Program} {t : TypeId} {l : LK} : (∀ ls, leaf1 P t l ≠ .strt ls) ∧ (∀ n, leaf1 P t l ≠ .blk n) := by
  unfold leaf1
  split <;> exact ⟨fun _ h => (by cases h), fun _ h => (by cases h)⟩

theorem tyOf_cases (P : Program) (d : Nat) (t : TypeId) :
    (∀ l, tyOf P d t = .leaf l → ∃ u, P.underlying t = some u ∧ aggTy u = false ∧ P.cellsOf t = 1) ∧
    (∀ ls, tyOf P d t = .strt ls → ∃ u, P.underlying t = some u ∧ aggTy u = true ∧ ls.length = P.cellsOf t ∧ P.cellsOf t ≠ 0) ∧
    (∀ n, tyOf P d t = .blk n → ∃ u, P.underlying t = some u ∧ aggTy u = true ∧ n = P.cellsOf t ∧ P.cellsOf t ≠ 0) := by
  cases d with
  | zero => simp [tyOf]
  | succ d =>
    unfold tyOf
    cases hu : P.underlying t with
    | none => simp
    | some u =>
      have lf : ∀ l0 : LK, aggTy u = false → (∀ l, leaf1 P t l0 = .leaf l → ∃ u', some u = some u' ∧ aggTy u' = false ∧ P.cellsOf t = 1) ∧
          (∀ ls, leaf1 P t l0 = .strt ls → ∃ u', some u = some u' ∧ aggTy u' = true ∧ ls.length = P.cellsOf t ∧ P.cellsOf t ≠ 0) ∧
          (∀ n, leaf1 P t l0 = .blk n → ∃ u', some u = some u' ∧ aggTy u' = true ∧ n = P.cellsOf t ∧ P.cellsOf t ≠ 0) :=
        fun l0 ha => ⟨fun l h => ⟨u, rfl, ha, leaf1_inv h⟩, fun ls h => absurd h (leaf1_ne.1 ls), fun n h => absurd h (leaf1_ne.2 n)⟩
      by_cases h0 : P.cellsOf t = 0
      · cases u <;> first | exact lf _ rfl | simp [aggTy, h0]
      · cases u <;> first | exact lf _ rfl | simp [aggTy, h0]
        rename_i fs
        cases hl : leaves P 20 t with
        | none => simp
        | some ls =>
          simp only
          split
          · rename_i h1
            split
            · simp [h1]
            · simp
          · simp

theorem run_isAgg {P : Program} {t : TypeId} {u : TypeDesc} (h : P.underlying t = some u) (w : World) : (isAgg t).run P w = .ok (aggTy u) w := by
  simp only [isAgg, Sem.run_bind, run_underlying h, Result.andThen_ok]
  cases u <;> rfl

theorem info_of_underlying {P : Program} {t : TypeId} {u : TypeDesc} (h : P.underlying t = some u) : ∃ i, P.info? t = some i := by
  unfold Program.underlying at h
  cases hi : P.info? t with
  | none => rw [hi] at h; simp at h
  | some i => exact ⟨i, rfl⟩

theorem run_typeInfo {P : Program} {t : TypeId} {i : TypeInfo} (h : P.info? t = some i) (w : World) : (typeInfo t).run P w = .ok i w := by
  simp [typeInfo, h]

theorem run_sizeOf {P : Program} {t : TypeId} {i : TypeInfo} (h : P.info? t = some i) (w : World) : (sizeOf t).run P w = .ok (P.cellsOf t) w := by
  simp [sizeOf, run_typeInfo h, Program.cellsOf, h]

theorem run_sizeOf' {P : Program} {t : TypeId} {u : TypeDesc} (h : P.underlying t = some u) (w : World) : (sizeOf t).run P w = .ok (P.cellsOf t) w := by
  obtain ⟨i, hi⟩ := info_of_underlying h
  exact run_sizeOf hi w

end
end Go.L
