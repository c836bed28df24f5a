/- Code, and functions, whatever order their regions draw. -/
import Derived.Test.YtbpibiapjangmaaL29
namespace Go.L

theorem LpOk.norm {E : Env} {st : St} (h : LpOk E st) (o : Option (List Nat × List Nat)) : LpOk E (st.norm o) := by
  cases o with
  | none => exact h
  | some p =>
    obtain ⟨ls, ll⟩ := p
    intro i
    show lpOk E i (lk (normS (normL st.l ll) st.s ls) i) = true
    rcases lk_normS (normL st.l ll) st.s ls i with e | e
    · rw [e]; rfl
    · rw [e]
      have := h i
      cases hx : lk st.s i with
      | lp t off =>
        rw [hx] at this
        unfold keepS
        simp only
        split
        · exact this
        · rfl
      | v x => rw [hx] at this; exact this
      | p x => rw [hx] at this; exact this
      | bad => rfl
      | un => rfl

theorem filterMap_some' {α β : Type} {f : α → Option β} {g : α → β} : ∀ (l : List α), (∀ x ∈ l, f x = some (g x)) → l.filterMap f = l.map g
  | [], _ => rfl
  | x :: l, h => by
    rw [List.filterMap_cons, h x (List.mem_cons_self ..), List.map_cons, filterMap_some' l fun y hy => h y (List.mem_cons_of_mem _ hy)]

theorem rem_all (ops : Array Oper) : (rem ops (Array.replicate ops.size false)).filterMap (ops[·]?) = ops.toList := by
  have h1 : rem ops (Array.replicate ops.size false) = List.range ops.size := by
    unfold rem
    refine List.filter_eq_self.2 fun i hi => ?_
    have : i < ops.size := by simpa using hi
    simp [this]
  rw [h1]
  apply List.ext_getElem?
  intro i
  have : (List.range ops.size).filterMap (ops[·]?) = (List.range ops.size).map (fun i => ops.getD i default) := by
    refine filterMap_some' _ fun j hj => ?_
    have : j < ops.size := by simpa using hj
    simp [this]
  rw [this]
  by_cases hi : i < ops.size
  · simp [hi]
  · simp [hi]


/-! Codecs: what is told is what is kept. -/
theorem ofV_law : ∀ (l : LK) (v : V) (x : l.T), l.ofV v = some x → l.toV x = v
  | .int k, v, x, h => by
    simp only [LK.ofV, asInt] at h
    split at h
    · rename_i k' n e
      cases e
      split at h
      · rename_i e; subst e; cases h; rfl
      · cases h
    · cases h
  | .bool, v, x, h => by
    simp only [LK.ofV, asBool] at h
    split at h
    · rename_i e; cases e; cases h; rfl
    · cases h
  | .str, v, x, h => by
    simp only [LK.ofV, asStr] at h
    split at h
    · rename_i e; cases e; cases h; rfl
    · cases h
  | .float k, v, x, h => by
    simp only [LK.ofV, asFloat] at h
    split at h
    · rename_i e
      cases e
      split at h
      · rename_i e; subst e; cases h; rfl
      · cases h
    · cases h
  | .cplx k, v, x, h => by
    simp only [LK.ofV, asCplx'] at h
    split at h
    · rename_i e
      cases e
      split at h
      · rename_i e; subst e; cases h; rfl
      · cases h
    · cases h
  | .ref, v, x, h => by simp only [LK.ofV] at h; cases h; rfl

theorem encLs_law : ∀ (ls : List LK) (vs : List V) {E : Type} (e : Option E) (t : TupL ls E), encLs ls vs e = some t → ∃ y, e = some y ∧ decLs ls t = (vs, y)
  | [], vs, _, e, t, h => by
    cases vs with
    | nil => exact ⟨t, h, rfl⟩
    | cons v vs => cases h
  | l :: r, vs, _, e, t, h => by
    cases vs with
    | nil => cases h
    | cons v vs =>
      obtain ⟨x, hx, h⟩ := Option.bind_eq_some_iff.1 h
      obtain ⟨y, hy, h⟩ := Option.bind_eq_some_iff.1 h
      have h := Option.some.inj h
      subst h
      obtain ⟨z, hz, hd⟩ := encLs_law r vs e y hy
      exact ⟨z, hz, by simp only [decLs, hd, ofV_law l v x hx]⟩

theorem asCells_inv {v : V} {cs : List V} (h : asCells v = some cs) : v = .agg cs := by
  cases v <;> simp only [asCells] at h <;> first | (cases h; rfl) | cases h

theorem encV_law : ∀ (k : SK) (v : V) {E : Type} (e : Option E) (t : k.T E), k.encV v e = some t → ∃ y, e = some y ∧ k.decV t = (v, y) ∧ k.dec t = (.v v, y)
  | .one l, v, E, e, t, h => by
    obtain ⟨x, hx, h⟩ := Option.bind_eq_some_iff.1 h
    obtain ⟨y, hy, h⟩ := Option.bind_eq_some_iff.1 h
    have h := Option.some.inj h
    subst h
    exact ⟨y, hy, by simp only [SK.decV, ofV_law l v x hx], by simp only [SK.dec, ofV_law l v x hx]⟩
  | .agg ls, v, E, e, t, h => by
    obtain ⟨cs, hcs, h⟩ := Option.bind_eq_some_iff.1 h
    cases asCells_inv hcs
    obtain ⟨y, hy, hd⟩ := encLs_law ls cs e t h
    exact ⟨y, hy, by simp only [SK.decV, hd], by simp only [SK.dec, hd]⟩
  | .blk, v, E, e, t, h => by
    obtain ⟨cs, hcs, h⟩ := Option.bind_eq_some_iff.1 h
    obtain ⟨y, hy, h⟩ := Option.bind_eq_some_iff.1 h
    have h := Option.some.inj h
    subst h
    cases asCells_inv hcs
    exact ⟨y, hy, rfl, rfl⟩
  | .lp a b, v, E, e, t, h => by cases h

theorem asSv_inv {x : S} {v : V} (h : asSv x = some v) : x = .v v := by
  cases x <;> simp only [asSv] at h <;> first | (cases h; rfl) | cases h

theorem asLp_inv {a b : Nat} {x : S} {u : Unit} (h : asLp a b x = some u) : x = .lp a b := by
  cases x <;> simp only [asLp] at h <;> try cases h
  split at h
  · rename_i h1 h2
    rw [Nat.eq_of_beq_eq_true h1, Nat.eq_of_beq_eq_true h2]
  · cases h

theorem enc_law : ∀ (k : SK) (x : S) {E : Type} (e : Option E) (t : k.T E), k.enc x e = some t → ∃ y, e = some y ∧ k.dec t = (x, y)
  | .lp a b, x, E, e, t, h => by
    obtain ⟨u, hu, h2⟩ := Option.bind_eq_some_iff.1 h
    have h1 := asLp_inv hu
    subst h1
    exact ⟨t, h2, rfl⟩
  | .one l, x, E, e, t, h => by
    obtain ⟨v, hv, h⟩ := Option.bind_eq_some_iff.1 h
    cases asSv_inv hv
    obtain ⟨y, hy, _, hd⟩ := encV_law (.one l) v e t h
    exact ⟨y, hy, hd⟩
  | .agg ls, x, E, e, t, h => by
    obtain ⟨v, hv, h⟩ := Option.bind_eq_some_iff.1 h
    cases asSv_inv hv
    obtain ⟨y, hy, _, hd⟩ := encV_law (.agg ls) v e t h
    exact ⟨y, hy, hd⟩
  | .blk, x, E, e, t, h => by
    obtain ⟨v, hv, h⟩ := Option.bind_eq_some_iff.1 h
    cases asSv_inv hv
    obtain ⟨y, hy, _, hd⟩ := encV_law .blk v e t h
    exact ⟨y, hy, hd⟩

theorem encSs_law : ∀ (ks : List SK) (ix : List Nat) (xs : List (Nat × S)) {E : Type} (e : Option E) (t : Tup ks E), xs.map (·.1) = ix → encSs ks xs e = some t → ∃ y, e = some y ∧ decSs ks ix t = (xs, y)
  | [], ix, xs, _, e, t, hi, h => by
    cases xs with
    | nil => exact ⟨t, h, rfl⟩
    | cons x xs => cases h
  | k :: r, ix, xs, _, e, t, hi, h => by
    cases xs with
    | nil => cases h
    | cons x xs =>
      obtain ⟨y, hy, hd⟩ := enc_law k _ _ t h
      subst hi
      obtain ⟨z, hz, hd'⟩ := encSs_law r (xs.map (·.1)) xs e y rfl hy
      refine ⟨z, hz, ?_⟩
      simp only [decSs, List.map_cons, List.tail_cons, List.headD_cons, hd, hd']

theorem encVs_law : ∀ (ks : List SK) (xs : List V) {E : Type} (e : Option E) (t : Tup ks E), encVs ks xs e = some t → ∃ y, e = some y ∧ decVs ks t = (xs, y)
  | [], xs, _, e, t, h => by
    cases xs with
    | nil => exact ⟨t, h, rfl⟩
    | cons x xs => cases h
  | k :: r, xs, _, e, t, h => by
    cases xs with
    | nil => cases h
    | cons x xs =>
      obtain ⟨y, hy, hd, _⟩ := encV_law k _ _ t h
      obtain ⟨z, hz, hd'⟩ := encVs_law r xs e y hy
      refine ⟨z, hz, ?_⟩
      simp only [decVs, hd, hd']

theorem encl_law : ∀ (k : LSp) (x : List V) {E : Type} (e : Option E) (t : k.T E), k.enc x e = some t → ∃ y, e = some y ∧ k.dec t = (x, y)
  | .cells ls, x, E, e, t, h => encLs_law ls x e t h
  | .blk, x, E, e, t, h => by
    obtain ⟨y, hy, h⟩ := Option.bind_eq_some_iff.1 h
    have h := Option.some.inj h
    subst h
    exact ⟨y, hy, rfl⟩

theorem encLl_law : ∀ (ks : List LSp) (ix : List Nat) (xs : List (Nat × List V)) {E : Type} (e : Option E) (t : TupV ks E), encLl ks ix xs e = some t → ∃ y, e = some y ∧ decLl ks ix t = (xs, y)
  | [], ix, xs, _, e, t, h => by
    cases xs with
    | nil => exact ⟨t, h, rfl⟩
    | cons x xs => cases h
  | k :: r, ix, xs, _, e, t, h => by
    cases xs with
    | nil => cases h
    | cons x xs =>
      cases ix with
      | nil => cases h
      | cons i ix =>
        unfold encLl at h
        simp only at h
        split at h
        · rename_i hb
          have hi := Nat.eq_of_beq_eq_true hb
          obtain ⟨y, hy, hd⟩ := encl_law k _ _ t h
          obtain ⟨z, hz, hd'⟩ := encLl_law r ix xs e y hy
          refine ⟨z, hz, ?_⟩
          simp only [decLl, List.headD_cons, List.tail_cons, hd, hd', ← hi]
        · cases h

theorem normS_ix (l : List (Nat × List V)) (s : List (Nat × S)) : ∀ ls : List Nat, (normS l s ls).map (·.1) = ls
  | [] => rfl
  | i :: r => by simp only [normS, List.map_cons, normS_ix l s r]

theorem alt_law (a : Alt) (st : St) (t : a.T) (h : a.enc st = some t) : a.dec t = a.norm st := by
  unfold Alt.enc at h
  have hn : (a.norm st).s.map (·.1) = a.ix := normS_ix _ _ _
  obtain ⟨y, hy, hd⟩ := encSs_law a.ks a.ix _ _ t hn h
  obtain ⟨z, hz, hd'⟩ := encLl_law a.ls a.lx _ _ y hy
  cases hz
  unfold Alt.dec
  rw [hd]
  simp only [hd']
  rfl

theorem xeq_eq {x y : X} (h : xeq x y = true) : x = y := by
  cases x <;> cases y <;> simp only [xeq] at h <;> first | rfl | (cases h; done) | (rw [Nat.eq_of_beq_eq_true h])

theorem encA_law : ∀ (as : List Alt) (x : X) (st : St) (s : AltT as), encA as x st = some s → ∃ a : Alt, ∀ (R : Type) (K : X → St → Option R), decA as s K = K x (a.norm st)
  | [], x, st, s, h => by cases h
  | [a], x, st, s, h => by
    simp only [encA] at h
    split at h
    · rename_i hx
      have := xeq_eq hx
      subst this
      refine ⟨a, fun R K => ?_⟩
      simp only [decA]
      rw [alt_law a st s h]
    · cases h
  | a :: b :: r, x, st, s, h => by
    simp only [encA] at h
    split at h
    · rename_i hx
      have := xeq_eq hx
      subst this
      obtain ⟨t, ht, h⟩ := Option.bind_eq_some_iff.1 h
      have h := Option.some.inj h
      subst h
      refine ⟨a, fun R K => ?_⟩
      simp only [decA]
      rw [alt_law a st t ht]
    · obtain ⟨t, ht, h⟩ := Option.bind_eq_some_iff.1 h
      have h := Option.some.inj h
      subst h
      obtain ⟨a', ha⟩ := encA_law (b :: r) x st t ht
      exact ⟨a', fun R K => by simp only [decA]; exact ha R K⟩

def calm (E : Env) : Code → Bool
  | .region _ ops draw => match draw with
    | true => E.P.follows .mixedOrders && drawOk E ops
    | false => true
  | .seq a b => calm E a && calm E b
  | .cond _ a b => calm E a && calm E b
  | .block _ c => calm E c
  | .loop c => calm E c
  | _ => true

theorem region_sound {E : Env} (hE : Good E) {R : Type} {st : St} {K : St → Option R} {r : R} {ρ : Ren} {lo : Nat → Option Nat} {a : Act} {w : World} {Q : Exit → Act → World → Prop}
    {id : Nat} {ops : Array Oper} {draw : Bool} (hc : calm E (.region id ops draw) = true) (he : evOps E ops (ops.size + ops.size) [] ops.toList st K = some r)
    (hr : RelA E.n ρ lo st a w) (hlp : LpOk E st)
    (hn : ∀ (st' : St) (ρ' : Ren) (lo' : Nat → Option Nat) (a' : Act) (w' : World), K st' = some r → RelA E.n ρ' lo' st' a' w' → LpOk E st' → Step ρ lo w ρ' lo' w' → Q .normal a' w') :
    (Code.region id ops draw).wp E.P Q a w := by
  obtain ⟨st', sf, k1, k2, k3, k4⟩ := evOps_flat _ _ _ he hlp
  cases draw with
  | false =>
    refine wp_region_list ?_
    rw [← wpL_list]
    exact flat_sound hE _ k1 hr fun ρ' lo' a' w' hr' hs' => hn st' ρ' lo' a' w' k2 (hr'.le k3) k4 hs'
  | true =>
    simp only [calm, Bool.and_eq_true] at hc
    have hrd : RelA E.n ρ lo st a { w with drawn := w.drawn + 1 } :=
      ⟨⟨hr.h.n, hr.h.live, hr.h.obj, hr.h.inj, hr.h.ro, hr.h.sep⟩, hr.s, hr.l, hr.ldom, hr.lout, hr.linj, hr.size, hr.defs⟩
    have hsd : Step ρ lo w ρ lo { w with drawn := w.drawn + 1 } := ⟨.refl ρ, ⟨rfl, rfl, fun _ => rfl⟩, Nat.le_refl _, fun _ _ h h' => ⟨rfl, h, h', rfl⟩⟩
    refine wp_region_any hc.1 (any_sound hE hc.2 ops.size _ (by simp) ?_ ?_ (by rw [rem_all]; exact k1) hlp hrd
      fun sF ρ' lo' a' w' hle hr' hs' => hn st' ρ' lo' a' w' k2 (hr'.le (St.le_trans k3 hle)) k4 (hsd.trans hs'))
    · unfold rem
      exact Nat.le_trans (List.length_filter_le _ _) (by simp)
    · intro j o hj ho
      have : j < ops.size := (Array.getElem?_eq_some_iff.1 ho).1
      simp [this] at hj

/-- What a loop's summary owes. -/
structure LoopOk (E : Env) (N : Nat) (c : Code) (A : LoopA) : Prop where
  zero : ∀ s, A.L 0 s = none
  succ : ∀ n s, A.L (n + 1) s = ev E N c (A.head.dec s) (A.next n)

def LGood (E : Env) (N : Nat) : Code → Prop
  | .seq a b => LGood E N a ∧ LGood E N b
  | .cond _ a b => LGood E N a ∧ LGood E N b
  | .block _ c => LGood E N c
  | .loop c => LGood E N c ∧ ∀ A, E.lp (lid c) = some A → LoopOk E N c A
  | _ => True

theorem ev_sound {E : Env} (hE : Good E) : ∀ (c : Code) (N : Nat), calm E c = true → LGood E N c → ∀ {R : Type} {st : St} {K : X → St → Option R} {r : R} {ρ : Ren} {lo : Nat → Option Nat} {a : Act} {w : World}
    {Q : Exit → Act → World → Prop}, ev E N c st K = some r → RelA E.n ρ lo st a w → LpOk E st →
    (∀ (x : X) (st' : St) (ρ' : Ren) (lo' : Nat → Option Nat) (a' : Act) (w' : World), K x st' = some r → RelA E.n ρ' lo' st' a' w' → LpOk E st' → Step ρ lo w ρ' lo' w' → Q x.exit' a' w') →
    c.wp E.P Q a w
  | .skip, N, _, hL, R, st, K, r, ρ, lo, a, w, Q, he, hr, hlp, hn => wp_skip (hn .normal st ρ lo a w he hr hlp (.refl _ _ _))
  | .region id ops draw, N, hc, hL, R, st, K, r, ρ, lo, a, w, Q, he, hr, hlp, hn => by
    simp only [ev] at he
    refine region_sound hE hc (K := K .normal) (by cases draw <;> exact he) hr hlp fun st' ρ' lo' a' w' hk hr' hlp' hs => hn .normal st' ρ' lo' a' w' hk hr' hlp' hs
  | .seq x y, N, hc, hL, R, st, K, r, ρ, lo, a, w, Q, he, hr, hlp, hn => by
    simp only [calm, Bool.and_eq_true] at hc
    simp only [ev] at he
    refine wp_seq (ev_sound hE x N hc.1 hL.1 he hr hlp fun e st' ρ' lo' a' w' hk hr' hlp' hs => ?_)
    cases e with
    | normal => exact ev_sound hE y N hc.2 hL.2 hk hr' hlp' fun e st'' ρ'' lo'' a'' w'' hk' hr'' hlp'' hs' => hn e st'' ρ'' lo'' a'' w'' hk' hr'' hlp'' (hs.trans hs')
    | exit i => exact hn _ st' ρ' lo' a' w' hk hr' hlp' hs
    | ret => exact hn _ st' ρ' lo' a' w' hk hr' hlp' hs
  | .cond c x y, N, hc, hL, R, st, K, r, ρ, lo, a, w, Q, he, hr, hlp, hn => by
    simp only [calm, Bool.and_eq_true] at hc
    simp only [ev] at he
    split at he
    · rename_i t ht
      have hv := opnd_bool hr ht
      split at he
      · cases t
        · exact wp_cond_false hv (ev_sound hE y N hc.2 hL.2 (by simpa using he) hr hlp hn)
        · exact wp_cond_true hv (ev_sound hE x N hc.1 hL.1 (by simpa using he) hr hlp hn)
      · rename_i as _
        obtain ⟨s, hs, he⟩ := Option.bind_eq_some_iff.1 he
        have hn' : ∀ (x : X) (st' : St) (ρ' : Ren) (lo' : Nat → Option Nat) (a' : Act) (w' : World), encA as x st' = some s → RelA E.n ρ' lo' st' a' w' → LpOk E st' → Step ρ lo w ρ' lo' w' → Q x.exit' a' w' := by
          intro x st' ρ' lo' a' w' hk hr' hlp' hs'
          obtain ⟨al, hd⟩ := encA_law as x st' s hk
          rw [hd R K] at he
          obtain ⟨lo2, hr2, hs2⟩ := norm_sound hr' (some (al.ix, al.lx))
          exact hn x _ ρ' lo2 a' w' he hr2 (hlp'.norm _) (hs'.trans hs2)
        cases t
        · exact wp_cond_false hv (ev_sound hE y N hc.2 hL.2 (by simpa using hs) hr hlp hn')
        · exact wp_cond_true hv (ev_sound hE x N hc.1 hL.1 (by simpa using hs) hr hlp hn')
    · cases he
  | .block id c, N, hc, hL, R, st, K, r, ρ, lo, a, w, Q, he, hr, hlp, hn => by
    simp only [calm] at hc
    simp only [ev] at he
    refine wp_block (ev_sound hE c N hc hL he hr hlp fun e st' ρ' lo' a' w' hk hr' hlp' hs => ?_)
    cases e with
    | normal => exact hn _ st' ρ' lo' a' w' hk hr' hlp' hs
    | ret => exact hn _ st' ρ' lo' a' w' hk hr' hlp' hs
    | exit i =>
      simp only [X.exit', Exit.inBlock] at hk ⊢
      by_cases h : i = id
      · subst h
        rw [Nat.beq_refl] at hk
        simp only [if_true]
        exact hn .normal st' ρ' lo' a' w' hk hr' hlp' hs
      · have : Nat.beq i id = false := by
          cases hb : Nat.beq i id with
          | false => rfl
          | true => exact absurd (Nat.eq_of_beq_eq_true hb) h
        rw [this] at hk
        rw [if_neg h]
        exact hn (.exit i) st' ρ' lo' a' w' hk hr' hlp' hs
  | .loop c, N, hc, hL, R, st, K, r, ρ, lo, a, w, Q, he, hr, hlp, hn => by
    simp only [calm] at hc
    simp only [ev] at he
    split at he
    case h_2 => cases he
    rename_i A hA
    have hok := hL.2 A hA
    obtain ⟨s, hs, he⟩ := Option.bind_eq_some_iff.1 he
    obtain ⟨o, ho, he⟩ := Option.bind_eq_some_iff.1 he
    have key : ∀ (n : Nat) {s : A.head.T} {ρ' : Ren} {lo' : Nat → Option Nat} {a' : Act} {w' : World}, A.L n s = some o → RelA E.n ρ' lo' (A.head.dec s) a' w' → LpOk E (A.head.dec s) → Step ρ lo w ρ' lo' w' →
        Code.rounds E.P c Q n a' w' := by
      intro n
      induction n with
      | zero => intro s ρ' lo' a' w' he _ _ _; rw [hok.zero] at he; cases he
      | succ n ih =>
        intro s ρ' lo' a' w' he' hr hlp hs
        rw [rounds_succ]
        rw [hok.succ] at he'
        refine ev_sound hE c N hc hL.1 he' hr hlp fun e st' ρ'' lo'' a'' w'' hk hr' hlp' hs' => ?_
        have out : encA A.outs e st' = some o → Q e.exit' a'' w'' := by
          intro hk
          obtain ⟨al, hd⟩ := encA_law A.outs e st' o hk
          rw [hd R K] at he
          obtain ⟨lo3, hr3, hs3⟩ := norm_sound hr' (some (al.ix, al.lx))
          exact hn e _ ρ'' lo3 a'' w'' he hr3 (hlp'.norm _) ((hs.trans hs').trans hs3)
        cases e with
        | normal =>
          obtain ⟨s', hs1, hs2⟩ := Option.bind_eq_some_iff.1 hk
          obtain ⟨lo3, hr3, hs3⟩ := norm_sound hr' (some (A.head.ix, A.head.lx))
          have hd := alt_law A.head st' s' hs1
          exact ih hs2 (by rw [hd]; exact hr3) (by rw [hd]; exact hlp'.norm _) ((hs.trans hs').trans hs3)
        | exit i => exact out hk
        | ret => exact out hk
    obtain ⟨lo1, hr1, hs1⟩ := norm_sound hr (some (A.head.ix, A.head.lx))
    have hd := alt_law A.head st s hs
    exact wp_loop_rounds N (key N ho (by rw [hd]; exact hr1) (by rw [hd]; exact hlp.norm _) hs1)
  | .exit id, N, _, hL, R, st, K, r, ρ, lo, a, w, Q, he, hr, hlp, hn => wp_exit (hn (.exit id) st ρ lo a w he hr hlp (.refl _ _ _))
  | .ret, N, _, hL, R, st, K, r, ρ, lo, a, w, Q, he, hr, hlp, hn => wp_ret (hn .ret st ρ lo a w he hr hlp (.refl _ _ _))
  | .goto _, N, _, hL, R, st, K, r, ρ, lo, a, w, Q, he, hr, hlp, hn => by simp [ev] at he
  | .label _, N, _, hL, R, st, K, r, ρ, lo, a, w, Q, he, hr, hlp, hn => by simp [ev] at he
  | .scope .., N, _, hL, R, st, K, r, ρ, lo, a, w, Q, he, hr, hlp, hn => by simp [ev] at he

theorem resVs_thru (E : Env) (st : St) : ∀ (rs : List ResultVar), Thru (fun R K => resVs (R := R) E st rs K)
  | [] => Thru.k _
  | .tmp t :: r => fun R K x h => by
    simp only [resVs] at h
    split at h
    · rename_i v hv
      obtain ⟨vs, h1, h2⟩ := resVs_thru E st r _ _ _ h
      exact ⟨v :: vs, h1, fun R2 K2 => by simp only [resVs, hv]; exact h2 R2 _⟩
    · cases h
  | .cell a t :: r => fun R K x h => by
    simp only [resVs] at h
    split at h
    · rename_i l hl
      obtain ⟨v, h1, h2⟩ := dest_thru l _ _ _ _ h
      obtain ⟨vs, h3, h4⟩ := resVs_thru E st r _ _ _ h1
      exact ⟨v :: vs, h3, fun R2 K2 => by simp only [resVs, hl]; exact (h2 R2 _).trans (h4 R2 _)⟩
    · rename_i ls hl
      obtain ⟨cs, h1, h2⟩ := rdLs_thru ls _ 0 _ _ _ h
      obtain ⟨vs, h3, h4⟩ := resVs_thru E st r _ _ _ h1
      exact ⟨.agg cs :: vs, h3, fun R2 K2 => by simp only [resVs, hl]; exact (h2 R2 _).trans (h4 R2 _)⟩
    · rename_i n hl
      obtain ⟨cs, h0, h1⟩ := Option.bind_eq_some_iff.1 h
      obtain ⟨vs, h3, h4⟩ := resVs_thru E st r _ _ _ h1
      exact ⟨.agg cs :: vs, h3, fun R2 K2 => by simp only [resVs, hl, h0, Option.bind_some]; exact h4 R2 _⟩
    · cases h

theorem evFT_triple {E : Env} (hE : Good E) {N : Nat} {f : FuncId} {fn : Func} (hf : E.P.funcs[f]? = some fn) (hn : fn.ntmps = E.n) (hc : (fn.body.map (calm E)).getD false = true) (hL : ∀ c, fn.body = some c → LGood E N c) {ks rs : List SK} {t : Tup ks H} (hl : (decVs ks t).1.length ≤ E.n) (ha : ∀ i, i < (decVs ks t).1.length → E.lpT i = none) {s : Tup rs H}
    (he : evFT E N fn ks rs t = some s) : Triple E.P f (decVs ks t).1 (decVs ks t).2 (outR rs s).1 (outR rs s).2 := by
  generalize hargs0 : (decVs ks t).1 = args at *
  generalize hh0 : (decVs ks t).2 = h at *
  intro ρ w xs hrel hsz hargs
  unfold evFT at he
  rw [hargs0, hh0] at he
  split at he
  case h_2 => cases he
  rename_i c hb
  refine calls_of_wp hf hb ?_
  have hr : RelA E.n ρ nol ⟨argSlots 0 args, [], h⟩ { tmps := xs ++ Array.replicate (fn.ntmps - xs.size) undef, defers := [] } w := by
    refine ⟨hrel, fun i => ?_, (fun t cs ht => by cases ht), (fun t b ht => by cases ht), (fun t b ht => by cases ht), (fun t t' b ht => by cases ht), by simp; omega, rfl⟩
    show RelS ρ nol (lk (argSlots 0 args) i) _
    rw [lk_argSlots]
    simp only [Nat.zero_le, if_true, Nat.sub_zero]
    split
    · rename_i u hu
      have hi : i < args.length := by
        rcases Nat.lt_or_ge i args.length with h | h
        · exact h
        · rw [List.getElem?_eq_none h] at hu; cases hu
      have hi' : i < xs.size := by omega
      have : (xs ++ Array.replicate (fn.ntmps - xs.size) undef).getD i undef = xs[i] := by
        rw [Array.getD_eq_getD_getElem?, Array.getElem?_append_left hi', Array.getElem?_eq_getElem hi']; rfl
      rw [this]
      exact hargs i u _ hu (Array.getElem?_eq_getElem hi')
    · trivial
  have hlp : LpOk E ⟨argSlots 0 args, [], h⟩ := fun i => by
    show lpOk E i (lk (argSlots 0 args) i) = true
    rw [lk_argSlots]
    simp only [Nat.zero_le, if_true, Nat.sub_zero]
    split
    · rename_i u hu
      have hi : i < args.length := by
        rcases Nat.lt_or_ge i args.length with h | h
        · exact h
        · rw [List.getElem?_eq_none h] at hu; cases hu
      simp only [lpOk, ha i hi]
    · rfl
  refine ev_sound hE c N (by simpa [hb] using hc) (hL c hb) he hr hlp fun x st' ρ' lo' a' w' hk hr' _ hs => ?_
  have fine : (resVs E st' fn.results.toList fun vs => encVs rs vs (some st'.h)) = some s → a'.defers = [] ∧ ∃ y, (results fn a'.tmps).run E.P w' = .ok y w' ∧ ∃ ρ' x, Ending.returned y = .returned x ∧ RelH ρ' (outR rs s).2 w' ∧ Step ρ nol w ρ' nol w' ∧ RelV ρ' (outR rs s).1 x := by
    intro hk
    obtain ⟨vs, hk1, hk2⟩ := resVs_thru E st' _ _ _ _ hk
    obtain ⟨y0, hy0, hd0⟩ := encVs_law rs vs _ s hk1
    cases hy0
    replace hk : resV E fn st' = some ((outR rs s).1, (outR rs s).2) := by
      unfold resV outR
      refine (hk2 _ _).trans ?_
      rw [hd0]
      cases vs with
      | nil => rfl
      | cons v vs => cases vs <;> rfl
    obtain ⟨y, h1, h2, h3⟩ := resV_run hr' hk
    exact ⟨hr'.defs, y, h1, ρ', y, rfl, by rw [h3]; exact hr'.h, ⟨hs.le, hs.still, hs.size, fun b hb k1 k2 => by
      obtain ⟨m1, m2, _, m4⟩ := hs.keep b hb k1 k2
      exact ⟨m1, m2, fun _ => by simp [nol], m4⟩⟩, h2⟩
  cases x with
  | normal => exact fine hk
  | ret => exact fine hk
  | exit i => cases hk

end Go.L
