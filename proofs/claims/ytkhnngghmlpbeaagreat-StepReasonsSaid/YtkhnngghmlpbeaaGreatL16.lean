/- Operations: maps, calls. -/
import Derived.Test.YtkhnngghmlpbeaaGreatL15
namespace Go.L
noncomputable section

section ops
variable {R : Type} {E : Env} {o : Oper} {st : St} {K : St → Option R} {r : R} {ρ : Ren} {lo : Nat → Option Nat} {a : Act} {w : World}
  {next : Act → World → Prop} {Q : Exit → Act → World → Prop}

theorem run_getObj {P : Program} {b : Nat} {ob : Obj} (h : w.heap[b]? = some ob) (hc : ∀ c e fr, ob ≠ .cells c e fr) : (getObj b).run P w = .ok ob w := by
  cases ob <;> first | exact absurd rfl (hc _ _ _) | (simp only [getObj, Sem.run, h])

theorem run_setObj {P : Program} {b : Nat} {ob ob' : Obj} (h : w.heap[b]? = some ob) (hc : ∀ c e fr, ob ≠ .cells c e fr) : (setObj b ob').run P w = .ok () { w with heap := w.heap.setIfInBounds b ob' } := by
  cases ob <;> first | exact absurd rfl (hc _ _ _) | (simp only [setObj, Sem.run, h])

def RelM (ρ : Ren) (es : List (V × V)) (ms : List MapEntry) : Prop :=
  es.length = ms.length ∧ ∀ (i : Nat) (e : V × V) (m : MapEntry), es[i]? = some e → ms[i]? = some m → RelV ρ e.1 m.key ∧ RelV ρ e.2 m.val

theorem RelM.tail {e : V × V} {es : List (V × V)} {m : MapEntry} {ms : List MapEntry} (h : RelM ρ (e :: es) (m :: ms)) : RelV ρ e.1 m.key ∧ RelV ρ e.2 m.val ∧ RelM ρ es ms :=
  ⟨(h.2 0 e m rfl rfl).1, (h.2 0 e m rfl rfl).2, by simpa using h.1, fun i e' m' he hm => h.2 (i + 1) e' m' (by simpa using he) (by simpa using hm)⟩

theorem keq_same {P : Program} {kt : TypeId} {d : TypeDesc} (hu : P.underlying kt = some d) {k k' : V} {x x' : Value} (hok : keyOk P kt k = true) (hk : RelV ρ k x) (hk' : RelV ρ k' x') {b : Bool} (h : keq k k' = some b) :
    Instr.sameNow d x x' = some b := by
  unfold keyOk at hok
  rw [hu] at hok
  unfold keq at h
  split at h
  · split at h
    · rename_i he
      cases h; subst he
      cases hk; cases hk'
      split at hok
      · rename_i h1 _; cases h1; simp [Instr.sameNow]
      all_goals simp_all
    · cases h
  · cases h
    cases hk; cases hk'
    split at hok <;> simp_all [Instr.sameNow]
  · cases h
    cases hk; cases hk'
    split at hok <;> simp_all [Instr.sameNow]
  · cases h

theorem mlook_run {P : Program} {kt : TypeId} {d : TypeDesc} (hu : P.underlying kt = some d) {k : V} {x : Value} (hok : keyOk P kt k = true) (hk : RelV ρ k x) : ∀ {es : List (V × V)} {ms : List MapEntry} (i : Nat) {q : Option V},
    RelM ρ es ms → mlook k es = some q → (q = none ∧ Instr.findNow d x ms i = some none) ∨ (∃ v j m, q = some v ∧ ms[j]? = some m ∧ RelV ρ v m.val ∧ Instr.findNow d x ms i = some (some (i + j, m.val)))
  | [], [], i, q, _, h => by simp [mlook] at h; subst h; exact .inl ⟨rfl, rfl⟩
  | [], _ :: _, i, q, hm, _ => by have := hm.1; simp at this
  | _ :: _, [], i, q, hm, _ => by have := hm.1; simp at this
  | e :: es, m :: ms, i, q, hm, h => by
    obtain ⟨h1, h2, h3⟩ := hm.tail
    simp only [mlook, Option.bind_eq_some_iff] at h
    obtain ⟨b, hb, h⟩ := h
    have hs := keq_same hu hok hk h1 hb
    split at h
    · rename_i hbt
      subst hbt
      cases h
      exact .inr ⟨e.2, 0, m, rfl, rfl, h2, by simp [Instr.findNow, hs]⟩
    · rename_i hbt
      have hbf : b = false := by simpa using hbt
      subst hbf
      rcases mlook_run hu hok hk (i + 1) h3 h with ⟨hq, hf⟩ | ⟨v, j, m', hq, hj, hv, hf⟩
      · exact .inl ⟨hq, by simp [Instr.findNow, hs, hf]⟩
      · exact .inr ⟨v, j + 1, m', hq, by simpa using hj, hv, by simp [Instr.findNow, hs, hf]; omega⟩

theorem mput_run {P : Program} {kt : TypeId} {d : TypeDesc} (hu : P.underlying kt = some d) {k v : V} {x : Value} (hok : keyOk P kt k = true) (hk : RelV ρ k x) : ∀ {es es' : List (V × V)} {ms : List MapEntry} (i : Nat),
    RelM ρ es ms → mput k v es = some es' → (es' = es ++ [(k, v)] ∧ Instr.findNow d x ms i = some none) ∨
      (∃ j m, ms[j]? = some m ∧ es' = es.set j (k, v) ∧ Instr.sameNow d x m.key = some true ∧ Instr.findNow d x ms i = some (some (i + j, m.val)))
  | [], es', [], i, _, h => by simp [mput] at h; subst h; exact .inl ⟨rfl, rfl⟩
  | [], _, _ :: _, i, hm, _ => by have := hm.1; simp at this
  | _ :: _, _, [], i, hm, _ => by have := hm.1; simp at this
  | e :: es, es', m :: ms, i, hm, h => by
    obtain ⟨h1, h2, h3⟩ := hm.tail
    simp only [mput, Option.bind_eq_some_iff] at h
    obtain ⟨b, hb, h⟩ := h
    have hs := keq_same hu hok hk h1 hb
    split at h
    · rename_i hbt
      subst hbt
      cases h
      exact .inr ⟨0, m, rfl, rfl, hs, by simp [Instr.findNow, hs]⟩
    · rename_i hbt
      have hbf : b = false := by simpa using hbt
      subst hbf
      simp only [Option.map_eq_some_iff] at h
      obtain ⟨es1, h4, rfl⟩ := h
      rcases mput_run hu hok hk (i + 1) h3 h4 with ⟨hq, hf⟩ | ⟨j, m', hj, hv, hsn, hf⟩
      · exact .inl ⟨by rw [hq]; rfl, by simp [Instr.findNow, hs, hf]⟩
      · exact .inr ⟨j + 1, m', by simpa using hj, by rw [hv]; rfl, hsn, by simp [Instr.findNow, hs, hf]; omega⟩

theorem mrem_run {P : Program} {kt : TypeId} {d : TypeDesc} (hu : P.underlying kt = some d) {k : V} {x : Value} (hok : keyOk P kt k = true) (hk : RelV ρ k x) : ∀ {es es' : List (V × V)} {ms : List MapEntry} (i : Nat),
    RelM ρ es ms → mrem k es = some es' → (es' = es ∧ Instr.findNow d x ms i = some none) ∨
      (∃ j m, ms[j]? = some m ∧ es' = es.eraseIdx j ∧ Instr.findNow d x ms i = some (some (i + j, m.val)))
  | [], es', [], i, _, h => by simp [mrem] at h; subst h; exact .inl ⟨rfl, rfl⟩
  | [], _, _ :: _, i, hm, _ => by have := hm.1; simp at this
  | _ :: _, _, [], i, hm, _ => by have := hm.1; simp at this
  | e :: es, es', m :: ms, i, hm, h => by
    obtain ⟨h1, h2, h3⟩ := hm.tail
    simp only [mrem, Option.bind_eq_some_iff] at h
    obtain ⟨b, hb, h⟩ := h
    have hs := keq_same hu hok hk h1 hb
    split at h
    · rename_i hbt
      subst hbt
      cases h
      exact .inr ⟨0, m, rfl, rfl, by simp [Instr.findNow, hs]⟩
    · rename_i hbt
      have hbf : b = false := by simpa using hbt
      subst hbf
      simp only [Option.map_eq_some_iff] at h
      obtain ⟨es1, h4, rfl⟩ := h
      rcases mrem_run hu hok hk (i + 1) h3 h4 with ⟨hq, hf⟩ | ⟨j, m', hj, hv, hf⟩
      · exact .inl ⟨by rw [hq], by simp [Instr.findNow, hs, hf]⟩
      · exact .inr ⟨j + 1, m', by simpa using hj, by rw [hv]; rfl, by simp [Instr.findNow, hs, hf]; omega⟩

theorem checkKey_run {P : Program} {kt : TypeId} {k : V} {x : Value} (hok : keyOk P kt k = true) (hk : RelV ρ k x) (empty : Bool) : (Instr.checkKey empty 10000 kt x).run P w = .ok () w := by
  show (Instr.checkKey empty (9999 + 1) kt x).run P w = _
  unfold keyOk at hok
  split at hok
  · rename_i h
    cases hk
    unfold Instr.checkKey
    simp [run_underlying h]
  · rename_i h
    cases hk
    unfold Instr.checkKey
    simp [run_underlying h]
  · rename_i h
    cases hk
    unfold Instr.checkKey
    simp [run_underlying h]
  · cases hok

theorem keyOk_underlying {P : Program} {kt : TypeId} {k : V} (hok : keyOk P kt k = true) : ∃ d, P.underlying kt = some d := by
  unfold keyOk at hok
  split at hok
  · rename_i h; exact ⟨_, h⟩
  · rename_i h; exact ⟨_, h⟩
  · rename_i h; exact ⟨_, h⟩
  · cases hok

/-- A map's entries, ours and the machine's. -/
theorem hmap_rel {h : H} (hh : RelH ρ h w) {m : V} {y : Value} (hm : RelV ρ m y) {es : List (V × V)} (he : hmap h m = some es) :
    (y = .map none ∧ es = []) ∨ ∃ id g ms clock, y = .map (some g.blk) ∧ m = .map id ∧ ρ.wr id = some g ∧ h[id]? = some (.map es) ∧ w.heap[g.blk]? = some (.map ms clock) ∧ RelM ρ es ms.toList := by
  unfold hmap at he
  split at he
  · cases he; cases hm; exact .inl ⟨rfl, rfl⟩
  · rename_i id
    split at he
    · rename_i es' hid
      cases he
      obtain ⟨g, hg⟩ := hh.live id _ hid rfl
      obtain ⟨o1, ob, h1, h2, h3, h4⟩ := hh.obj id g hg
      rw [hid] at h1; cases h1
      cases ob with
      | map ms clock =>
        cases hm with
        | map _ r k1 k2 =>
          have := k2 g h4 hg
          subst this
          exact .inr ⟨id, g, ms, clock, rfl, rfl, hg, hid, h2, by simp [h3.1], fun i e m he hm => h3.2 i e m he (by simpa using hm)⟩
      | _ => exact h3.elim
    · cases he
  · cases he

theorem findKey_run {P : Program} {kt : TypeId} {d : TypeDesc} (hu : P.underlying kt = some d) {x : Value} {ms : List MapEntry} {q : Option (Nat × Value)} (h : Instr.findNow d x ms 0 = some q) :
    (Instr.findKey kt x ms).run P w = .ok q w := by
  simp [Instr.findKey, run_underlying hu, h]

theorem lookup_sound {t : TypeId} {x i : Operand} {ok : Bool} (ho : o.op = .lookup t x i ok) (he : evOp E o st K = some r) (hr : RelA E.n ρ lo st a w) (hn : Owes E o st ρ lo w K r next) :
    o.wp E.P a w next Q := by
  unfold evOp at he
  simp only [ho] at he
  split at he
  · rename_i m key kt et hm hkey hu
    split at he
    · rename_i hok
      simp only [Option.bind_eq_some_iff] at he
      obtain ⟨es, hes, q, hq, z0, hz0, he⟩ := he
      have hmv := opnd_v hr hm
      have hkv := opnd_v hr hkey
      obtain ⟨d, hd⟩ := keyOk_underlying hok
      unfold zeroLeaf at hz0
      simp only [Option.bind_eq_some_iff] at hz0
      obtain ⟨zv, ⟨inf, hi, hz⟩, hzc⟩ := hz0
      have hzrel := cstV_rel ρ hzc
      split at he
      · rename_i l hty
        have main : ∃ y, RelV ρ (q.getD z0) y ∧ (Instr.lookup t (a.eval x) (a.eval i) ok).run E.P w = .ok (if ok then .tuple #[y, .bool q.isSome] else y) w := by
          rcases hmap_rel hr.h hmv hes with ⟨hy, rfl⟩ | ⟨id, g, ms, clock, hy, _, hg, _, hwb, hrm⟩
          · simp [mlook] at hq
            subst hq
            refine ⟨zv, hzrel, ?_⟩
            simp only [Instr.lookup, Sem.run_bind, run_underlying hu, Result.andThen_ok, hy, Sem.run_pure, checkKey_run hok hkv]
            have : (Instr.findKey kt (a.eval i) ([] : List MapEntry)).run E.P w = .ok none w := findKey_run hd rfl
            simp [this, run_zeroValue hi hz]
          · have hgo := run_getObj (P := E.P) hwb (by simp)
            rcases mlook_run hd hok hkv 0 hrm hq with ⟨rfl, hf⟩ | ⟨v, j, m', rfl, hj, hv, hf⟩
            · refine ⟨zv, hzrel, ?_⟩
              simp [Instr.lookup, run_underlying hu, hy, hgo, checkKey_run hok hkv, findKey_run hd hf, run_zeroValue hi hz]
            · refine ⟨m'.val, hv, ?_⟩
              simp [Instr.lookup, run_underlying hu, hy, hgo, checkKey_run hok hkv, findKey_run hd hf]
        obtain ⟨y, hy, hrun⟩ := main
        split at he
        · obtain ⟨v, hv, he⟩ := dest_inv he
          cases hv
          refine finV_sound he hr hn (y := .tuple #[y, .bool q.isSome]) ?_ (.tup _ _ rfl fun k v' x' h1 h2 => ?_)
          · unfold execOp; simp [ho, hrun]
          · match k, h1, h2 with
            | 0, h1, h2 => simp at h1 h2; subst h1; subst h2; exact hy
            | 1, h1, h2 => simp at h1 h2; subst h1; subst h2; exact .bool _
            | k + 2, h1, h2 => simp at h1
        · obtain ⟨v, hv, he⟩ := dest_inv he
          cases hv
          exact finV_sound he hr hn (y := y) (by unfold execOp; simp [ho, hrun]) hy
      · cases he
    · cases he
  · cases he

end ops
end
end Go.L
