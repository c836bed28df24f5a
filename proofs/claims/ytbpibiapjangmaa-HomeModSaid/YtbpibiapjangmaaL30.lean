/- Code, and functions, whatever order their regions draw. -/
import Derived.Test.YtbpibiapjangmaaL29
namespace Go.L

theorem LpOk.norm {E : Env} {st : St} (h : LpOk E st) (o : Option (List Nat × List Nat)) : LpOk E (st.norm o) := by
  cases o with
  | none => exact h
  | some p =>
    obtain ⟨ls, ll⟩ := p
    intro i
    show lpOk E i (lk (normS (normL st.l ll) st.s ls) i) = true
    rcases lk_normS (normL st.l ll) st.s ls i with e | e
    · rw [e]; rfl
    · rw [e]
      have := h i
      cases hx : lk st.s i with
      | lp t off =>
        rw [hx] at this
        unfold keepS
        simp only
        split
        · exact this
        · rfl
      | v x => rw [hx] at this; exact this
      | p x => rw [hx] at this; exact this
      | bad => rfl
      | un => rfl

theorem filterMap_some' {α β : Type} {f : α → Option β} {g : α → β} : ∀ (l : List α), (∀ x ∈ l, f x = some (g x)) → l.filterMap f = l.map g
  | [], _ => rfl
  | x :: l, h => by
    rw [List.filterMap_cons, h x (List.mem_cons_self ..), List.map_cons, filterMap_some' l fun y hy => h y (List.mem_cons_of_mem _ hy)]

theorem rem_all (ops : Array Oper) : (rem ops (Array.replicate ops.size false)).filterMap (ops[·]?) = ops.toList := by
  have h1 : rem ops (Array.replicate ops.size false) = List.range ops.size := by
    unfold rem
    refine List.filter_eq_self.2 fun i hi => ?_
    have : i < ops.size := by simpa using hi
    simp [this]
  rw [h1]
  apply List.ext_getElem?
  intro i
  have : (List.range ops.size).filterMap (ops[·]?) = (List.range ops.size).map (fun i => ops.getD i default) := by
    refine filterMap_some' _ fun j hj => ?_
    have : j < ops.size := by simpa using hj
    simp [this]
  rw [this]
  by_cases hi : i < ops.size
  · simp [hi]
  · simp [hi]

def calm (E : Env) : Code → Bool
  | .region _ ops draw => match draw with
    | true => E.P.follows .mixedOrders && drawOk E ops
    | false => true
  | .seq a b => calm E a && calm E b
  | .cond _ a b => calm E a && calm E b
  | .block _ c => calm E c
  | .loop c => calm E c
  | _ => true

theorem region_sound {E : Env} (hE : Good E) {R : Type} {st : St} {K : St → Option R} {r : R} {ρ : Ren} {lo : Nat → Option Nat} {a : Act} {w : World} {Q : Exit → Act → World → Prop}
    {id : Nat} {ops : Array Oper} {draw : Bool} (hc : calm E (.region id ops draw) = true) (he : evOps E ops (ops.size + ops.size) [] ops.toList (st.norm (E.nrm id)) K = some r)
    (hr : RelA E.n ρ lo st a w) (hlp : LpOk E st)
    (hn : ∀ (st' : St) (ρ' : Ren) (lo' : Nat → Option Nat) (a' : Act) (w' : World), K st' = some r → RelA E.n ρ' lo' st' a' w' → LpOk E st' → Step ρ lo w ρ' lo' w' → Q .normal a' w') :
    (Code.region id ops draw).wp E.P Q a w := by
  obtain ⟨lo1, hr1, hs1⟩ := norm_sound hr (E.nrm id)
  obtain ⟨st', sf, k1, k2, k3, k4⟩ := evOps_flat _ _ _ he (hlp.norm _)
  cases draw with
  | false =>
    refine wp_region_list ?_
    rw [← wpL_list]
    exact flat_sound hE _ k1 hr1 fun ρ' lo' a' w' hr' hs' => hn st' ρ' lo' a' w' k2 (hr'.le k3) k4 (hs1.trans hs')
  | true =>
    simp only [calm, Bool.and_eq_true] at hc
    have hrd : RelA E.n ρ lo1 (st.norm (E.nrm id)) a { w with drawn := w.drawn + 1 } :=
      ⟨⟨hr1.h.n, hr1.h.live, hr1.h.obj, hr1.h.inj, hr1.h.ro, hr1.h.sep⟩, hr1.s, hr1.l, hr1.ldom, hr1.lout, hr1.linj, hr1.size, hr1.defs⟩
    have hsd : Step ρ lo1 w ρ lo1 { w with drawn := w.drawn + 1 } := ⟨.refl ρ, ⟨rfl, rfl, fun _ => rfl⟩, Nat.le_refl _, fun _ _ h h' => ⟨rfl, h, h', rfl⟩⟩
    refine wp_region_any hc.1 (any_sound hE hc.2 ops.size _ (by simp) ?_ ?_ (by rw [rem_all]; exact k1) (hlp.norm _) hrd
      fun sF ρ' lo' a' w' hle hr' hs' => hn st' ρ' lo' a' w' k2 (hr'.le (St.le_trans k3 hle)) k4 (hs1.trans (hsd.trans hs')))
    · unfold rem
      exact Nat.le_trans (List.length_filter_le _ _) (by simp)
    · intro j o hj ho
      have : j < ops.size := (Array.getElem?_eq_some_iff.1 ho).1
      simp [this] at hj

theorem ev_sound {E : Env} (hE : Good E) (N : Nat) : ∀ (c : Code), calm E c = true → ∀ {R : Type} {st : St} {K : X → St → Option R} {r : R} {ρ : Ren} {lo : Nat → Option Nat} {a : Act} {w : World}
    {Q : Exit → Act → World → Prop}, ev E N c st K = some r → RelA E.n ρ lo st a w → LpOk E st →
    (∀ (x : X) (st' : St) (ρ' : Ren) (lo' : Nat → Option Nat) (a' : Act) (w' : World), K x st' = some r → RelA E.n ρ' lo' st' a' w' → LpOk E st' → Step ρ lo w ρ' lo' w' → Q x.exit' a' w') →
    c.wp E.P Q a w
  | .skip, _, R, st, K, r, ρ, lo, a, w, Q, he, hr, hlp, hn => wp_skip (hn .normal st ρ lo a w he hr hlp (.refl _ _ _))
  | .region id ops draw, hc, R, st, K, r, ρ, lo, a, w, Q, he, hr, hlp, hn => by
    simp only [ev] at he
    refine region_sound hE hc (K := K .normal) (by cases draw <;> exact he) hr hlp fun st' ρ' lo' a' w' hk hr' hlp' hs => hn .normal st' ρ' lo' a' w' hk hr' hlp' hs
  | .seq x y, hc, R, st, K, r, ρ, lo, a, w, Q, he, hr, hlp, hn => by
    simp only [calm, Bool.and_eq_true] at hc
    simp only [ev] at he
    refine wp_seq (ev_sound hE N x hc.1 he hr hlp fun e st' ρ' lo' a' w' hk hr' hlp' hs => ?_)
    cases e with
    | normal => exact ev_sound hE N y hc.2 hk hr' hlp' fun e st'' ρ'' lo'' a'' w'' hk' hr'' hlp'' hs' => hn e st'' ρ'' lo'' a'' w'' hk' hr'' hlp'' (hs.trans hs')
    | exit i => exact hn _ st' ρ' lo' a' w' hk hr' hlp' hs
    | ret => exact hn _ st' ρ' lo' a' w' hk hr' hlp' hs
  | .cond c x y, hc, R, st, K, r, ρ, lo, a, w, Q, he, hr, hlp, hn => by
    simp only [calm, Bool.and_eq_true] at hc
    simp only [ev] at he
    split at he
    · rename_i t ht
      have hv := opnd_bool hr ht
      cases t
      · exact wp_cond_false hv (ev_sound hE N y hc.2 (by simpa using he) hr hlp hn)
      · exact wp_cond_true hv (ev_sound hE N x hc.1 (by simpa using he) hr hlp hn)
    · cases he
  | .block id c, hc, R, st, K, r, ρ, lo, a, w, Q, he, hr, hlp, hn => by
    simp only [calm] at hc
    simp only [ev] at he
    refine wp_block (ev_sound hE N c hc he hr hlp fun e st' ρ' lo' a' w' hk hr' hlp' hs => ?_)
    cases e with
    | normal => exact hn _ st' ρ' lo' a' w' hk hr' hlp' hs
    | ret => exact hn _ st' ρ' lo' a' w' hk hr' hlp' hs
    | exit i =>
      simp only [X.exit', Exit.inBlock] at hk ⊢
      by_cases h : i = id
      · subst h
        rw [Nat.beq_refl] at hk
        simp only [if_true]
        exact hn .normal st' ρ' lo' a' w' hk hr' hlp' hs
      · have : Nat.beq i id = false := by
          cases hb : Nat.beq i id with
          | false => rfl
          | true => exact absurd (Nat.eq_of_beq_eq_true hb) h
        rw [this] at hk
        rw [if_neg h]
        exact hn (.exit i) st' ρ' lo' a' w' hk hr' hlp' hs
  | .loop c, hc, R, st, K, r, ρ, lo, a, w, Q, he, hr, hlp, hn => by
    simp only [calm] at hc
    simp only [ev] at he
    refine wp_loop_rounds N ?_
    have key : ∀ (n : Nat) {st : St} {ρ' : Ren} {lo' : Nat → Option Nat} {a' : Act} {w' : World}, iter n (fun s k => ev E N c s k) st K = some r → RelA E.n ρ' lo' st a' w' → LpOk E st → Step ρ lo w ρ' lo' w' →
        Code.rounds E.P c Q n a' w' := by
      intro n
      induction n with
      | zero => intro st ρ' lo' a' w' he _ _ _; cases he
      | succ n ih =>
        intro st ρ' lo' a' w' he hr hlp hs
        rw [rounds_succ]
        simp only [iter] at he
        refine ev_sound hE N c hc he hr hlp fun e st' ρ'' lo'' a'' w'' hk hr' hlp' hs' => ?_
        cases e with
        | normal => exact ih hk hr' hlp' (hs.trans hs')
        | exit i => exact hn _ st' ρ'' lo'' a'' w'' hk hr' hlp' (hs.trans hs')
        | ret => exact hn _ st' ρ'' lo'' a'' w'' hk hr' hlp' (hs.trans hs')
    exact key N he hr hlp (.refl _ _ _)
  | .exit id, _, R, st, K, r, ρ, lo, a, w, Q, he, hr, hlp, hn => wp_exit (hn (.exit id) st ρ lo a w he hr hlp (.refl _ _ _))
  | .ret, _, R, st, K, r, ρ, lo, a, w, Q, he, hr, hlp, hn => wp_ret (hn .ret st ρ lo a w he hr hlp (.refl _ _ _))
  | .goto _, _, R, st, K, r, ρ, lo, a, w, Q, he, hr, hlp, hn => by simp [ev] at he
  | .label _, _, R, st, K, r, ρ, lo, a, w, Q, he, hr, hlp, hn => by simp [ev] at he
  | .scope .., _, R, st, K, r, ρ, lo, a, w, Q, he, hr, hlp, hn => by simp [ev] at he
theorem evF_triple {E : Env} (hE : Good E) {N : Nat} {f : FuncId} {fn : Func} (hf : E.P.funcs[f]? = some fn) (hn : fn.ntmps = E.n) (hc : (fn.body.map (calm E)).getD false = true) {args : List V} (hl : args.length ≤ E.n) (ha : ∀ i, i < args.length → E.lpT i = none) {h : H} {v : V} {h' : H}
    (he : evF E N fn args h = some (v, h')) : Triple E.P f args h v h' := by
  intro ρ w xs hrel hsz hargs
  unfold evF at he
  split at he
  case h_2 => cases he
  rename_i c hb
  refine calls_of_wp hf hb ?_
  have hr : RelA E.n ρ nol ⟨argSlots 0 args, [], h⟩ { tmps := xs ++ Array.replicate (fn.ntmps - xs.size) undef, defers := [] } w := by
    refine ⟨hrel, fun i => ?_, (fun t cs ht => by cases ht), (fun t b ht => by cases ht), (fun t b ht => by cases ht), (fun t t' b ht => by cases ht), by simp; omega, rfl⟩
    show RelS ρ nol (lk (argSlots 0 args) i) _
    rw [lk_argSlots]
    simp only [Nat.zero_le, if_true, Nat.sub_zero]
    split
    · rename_i u hu
      have hi : i < args.length := by
        rcases Nat.lt_or_ge i args.length with h | h
        · exact h
        · rw [List.getElem?_eq_none h] at hu; cases hu
      have hi' : i < xs.size := by omega
      have : (xs ++ Array.replicate (fn.ntmps - xs.size) undef).getD i undef = xs[i] := by
        rw [Array.getD_eq_getD_getElem?, Array.getElem?_append_left hi', Array.getElem?_eq_getElem hi']; rfl
      rw [this]
      exact hargs i u _ hu (Array.getElem?_eq_getElem hi')
    · trivial
  have hlp : LpOk E ⟨argSlots 0 args, [], h⟩ := fun i => by
    show lpOk E i (lk (argSlots 0 args) i) = true
    rw [lk_argSlots]
    simp only [Nat.zero_le, if_true, Nat.sub_zero]
    split
    · rename_i u hu
      have hi : i < args.length := by
        rcases Nat.lt_or_ge i args.length with h | h
        · exact h
        · rw [List.getElem?_eq_none h] at hu; cases hu
      simp only [lpOk, ha i hi]
    · rfl
  refine ev_sound hE N c (by simpa [hb] using hc) he hr hlp fun x st' ρ' lo' a' w' hk hr' _ hs => ?_
  have fine : resV E fn st' = some (v, h') → a'.defers = [] ∧ ∃ y, (results fn a'.tmps).run E.P w' = .ok y w' ∧ ∃ ρ' x, Ending.returned y = .returned x ∧ RelH ρ' h' w' ∧ Step ρ nol w ρ' nol w' ∧ RelV ρ' v x := by
    intro hk
    obtain ⟨y, h1, h2, h3⟩ := resV_run hr' hk
    subst h3
    exact ⟨hr'.defs, y, h1, ρ', y, rfl, hr'.h, ⟨hs.le, hs.still, hs.size, fun b hb k1 k2 => by
      obtain ⟨m1, m2, _, m4⟩ := hs.keep b hb k1 k2
      exact ⟨m1, m2, fun _ => by simp [nol], m4⟩⟩, h2⟩
  cases x with
  | normal => exact fine hk
  | ret => exact fine hk
  | exit i => cases hk

end Go.L
