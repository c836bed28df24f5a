import Derived.Test.YtgipaccfnlklcaaGreatDoorLC
import GoSem.ClaimFn
namespace Go.L
noncomputable section

def allOf {α β : Type} (f : α → Option (List β)) : List α → Option (List β)
  | [] => some []
  | x :: r => (f x).bind fun a => (allOf f r).bind fun b => some (a ++ b)

theorem allOf_mem {α β : Type} {f : α → Option (List β)} : ∀ {l : List α} {r : List β}, allOf f l = some r → ∀ x ∈ l, ∃ a, f x = some a ∧ ∀ y ∈ a, y ∈ r
  | [], r, h, x, hx => by cases hx
  | z :: l, r, h, x, hx => by
    simp only [allOf, Option.bind_eq_some_iff] at h
    obtain ⟨a, ha, b, hb, h⟩ := h
    cases h
    rcases List.mem_cons.1 hx with rfl | hx
    · exact ⟨a, ha, fun y hy => List.mem_append_left _ hy⟩
    · obtain ⟨a', h1, h2⟩ := allOf_mem hb x hx
      exact ⟨a', h1, fun y hy => List.mem_append_right _ (h2 y hy)⟩

def evLo {β : Type} (E : Env) (o : Oper) (st : St) (K : St → Option (List β)) : Option (List β) :=
  match o.op with
  | .next it false => match st.opnd it with
    | .v p => (hnexts st.h p).bind fun l => allOf (fun r => if r.1 = true then fin E o st K (.v (.tup [.bool true, r.2.1, r.2.2.1])) st.l r.2.2.2
      else fin E o st K (.v (.tup [.bool false])) st.l r.2.2.2) l
    | _ => none
  | _ => evOp E o st K

def evLs {β : Type} (E : Env) : List Oper → St → (St → Option (List β)) → Option (List β)
  | [], st, K => K st
  | o :: r, st, K => match o.guard with
    | none => evLo E o st fun st => evLs E r st K
    | some _ => none

def hasNext (l : List Oper) : Bool := l.any fun o => match o.op with
  | .next _ false => true
  | _ => false

def evL {β : Type} (E : Env) (N : Nat) : Code → St → (X → St → Option (List β)) → Option (List β)
  | .skip, st, K => K .normal st
  | .region id ops draw, st, K => match E.dd id with
    | true => none
    | false => match hasNext ops.toList, draw with
      | true, false => evLs E ops.toList st (K .normal)
      | true, true => none
      | false, _ => ev E N (.region id ops draw) st K
  | .seq a b, st, K => evL E N a st fun x st => match x with
    | .normal => evL E N b st K
    | x => K x st
  | .cond c a b, st, K => match st.opnd c with
    | .v (.bool t) => if t = true then evL E N a st K else evL E N b st K
    | _ => none
  | .block id c, st, K => evL E N c st fun x st => match x with
    | .exit i => match Nat.beq i id with
      | true => K .normal st
      | false => K (.exit i) st
    | x => K x st
  | .loop c, st, K => match E.lp (lid c) with
    | some A => (A.head.enc st).bind fun s => (A.L N s).bind fun o => decA A.outs o K
    | none => Nat.rec (motive := fun _ => St → Option (List β)) (fun _ => none) (fun _ ih st => evL E N c st fun x st => match x with
      | .normal => ih st
      | x => K x st) N st
  | .exit id, st, K => K (.exit id) st
  | .ret, st, K => K .ret st
  | .label _, st, K => K .normal st
  | _, _, _ => none

def evLT (E : Env) (N : Nat) (fn : Func) (ks rs : List SK) (t : Tup ks H) : Option (List (Tup rs H)) :=
  match fn.body with
  | some c => evL E N c ⟨argSlots 0 (decVs ks t).1, [], (decVs ks t).2⟩ fun x st => match x with
    | .normal | .ret => (resVs E st fn.results.toList fun vs => encVs rs vs (some st.h)).bind fun r => some [r]
    | .exit _ => none
    | .goto _ => none
  | none => none

theorem evLs_sound {E : Env} (hE : Good E) {ops : Array Oper} {β : Type} {Q : Exit → Act → World → Prop} {next : Act → World → Prop} : ∀ (l : List Oper) {st : St} {K : St → Option (List β)} {r : List β}
    {ρ : Ren} {lo : Nat → Option Nat} {a : Act} {w : World}, evLs E l st K = some r → RelA E.n ρ lo st a w → LpOk E st →
    (∀ (st' : St) (r' : List β) (ρ' : Ren) (lo' : Nat → Option Nat) (a' : Act) (w' : World), K st' = some r' → (∀ y ∈ r', y ∈ r) → RelA E.n ρ' lo' st' a' w' → LpOk E st' → Step ρ lo w ρ' lo' w' → next a' w') →
    wpL E.P ops Q next l a w
  | [], st, K, r, ρ, lo, a, w, h, hr, hlp, hn => hn st r ρ lo a w h (fun _ h => h) hr hlp (.refl _ _ _)
  | o :: l, st, K, r, ρ, lo, a, w, h, hr, hlp, hn => by
    simp only [evLs] at h
    split at h
    case h_2 => cases h
    rename_i hg
    have hw : Region.wanted o (yielded ops a.tmps) = true := by unfold Region.wanted; rw [hg]
    simp only [wpL, hw, if_true]
    unfold evLo at h
    split at h
    · rename_i it ho
      split at h
      case h_2 => cases h
      rename_i p hp
      simp only [Option.bind_eq_some_iff] at h
      obtain ⟨l', hl', h⟩ := h
      obtain ⟨x, hx, y, w', hrun, h1, h2, h3⟩ := next_run (E := E) (ty := o.type) hr (opnd_v hr hp) hl'
      obtain ⟨r1, hr1, hsub⟩ := allOf_mem h x hx
      have he : fin E o st (fun st => evLs E l st K) (.v (nextV x)) st.l x.2.2.2 = some r1 := by
        unfold nextV
        split at hr1
        · rename_i hb; rw [hb]; exact hr1
        · rename_i hb
          have hb : x.1 = false := by simpa using hb
          rw [hb]; exact hr1
      obtain ⟨e1, e2⟩ := fin_out he
      have he2 : fin E o st some (.v (nextV x)) st.l x.2.2.2 = some (outS E o st (.v (nextV x)) st.l x.2.2.2) := e2 st St some _ _ _
      refine .inl (upon_of (v := y) (by unfold execOp; simp [ho, hrun]) (fin_sound he2 h1 (x := .v _) h3 h2 ?_))
      intro st' ρ' lo' a' w'' hk _ hr' hs
      cases hk
      exact evLs_sound hE l e1 hr' (hlp.out _ _ _) fun st'' r'' ρ'' lo'' a'' w3 hk' hs1 hr'' hlp'' hs' => hn st'' r'' ρ'' lo'' a'' w3 hk' (fun y hy => hsub y (hs1 y hy)) hr'' hlp'' (hs.trans hs')
    · rename_i hno
      have h' : evOps E #[o] 1 [] [o] st (fun st => evLs E l st K) = some r := by
        simp only [evOps, hg]
        exact h
      obtain ⟨st', sf, k1, k2, k3, k4⟩ := evOps_flat _ _ _ h' hlp
      simp only [flat] at k1
      obtain ⟨st1, k1, e⟩ := Option.bind_eq_some_iff.1 k1
      cases e
      have hsw := stp_wp (ops := #[o]) (Q := Q) (next := wpL E.P ops Q next l) hE k1 hr fun ρ' lo' a' w' hr' hs =>
        evLs_sound hE l k2 (hr'.le k3) k4 fun st'' r'' ρ'' lo'' a'' w'' hk hs1 hr'' hlp'' hs' => hn st'' r'' ρ'' lo'' a'' w'' hk hs1 hr'' hlp'' (hs.trans hs')
      have hw2 : Region.wanted o (yielded #[o] a.tmps) = true := by unfold Region.wanted; rw [hg]
      rw [if_pos hw2] at hsw
      exact hsw

theorem evL_sound {E : Env} (hE : Good E) {β : Type} : ∀ (c : Code) (N : Nat), LGood E N c → ∀ {st : St} {K : X → St → Option (List β)} {r : List β} {ρ : Ren} {lo : Nat → Option Nat} {a : Act} {w : World}
    {Q : Exit → Act → World → Prop}, evL E N c st K = some r → RelA E.n ρ lo st a w → LpOk E st →
    (∀ (x : X) (st' : St) (r' : List β) (ρ' : Ren) (lo' : Nat → Option Nat) (a' : Act) (w' : World), K x st' = some r' → (∀ y ∈ r', y ∈ r) → RelA E.n ρ' lo' st' a' w' → LpOk E st' → Step ρ lo w ρ' lo' w' → Q x.exit' a' w') →
    c.wp E.P Q a w
  | .skip, N, hL, st, K, r, ρ, lo, a, w, Q, he, hr, hlp, hn => wp_skip (hn .normal st r ρ lo a w he (fun _ h => h) hr hlp (.refl _ _ _))
  | .region id ops draw, N, hL, st, K, r, ρ, lo, a, w, Q, he, hr, hlp, hn => by
    simp only [evL] at he
    split at he
    case h_1 => cases he
    split at he
    · refine wp_region_list ?_
      rw [← wpL_list]
      exact evLs_sound hE _ he hr hlp fun st' r' ρ' lo' a' w' hk hs1 hr' hlp' hs => hn .normal st' r' ρ' lo' a' w' hk hs1 hr' hlp' hs
    · cases he
    · exact ev_sound hE _ N hL he hr hlp fun x st' ρ' lo' a' w' hk hr' hlp' hs => hn x st' r ρ' lo' a' w' hk (fun _ h => h) hr' hlp' hs
  | .seq x y, N, hL, st, K, r, ρ, lo, a, w, Q, he, hr, hlp, hn => by
    simp only [evL] at he
    refine wp_seq (evL_sound hE x N hL.1 he hr hlp fun e st' r' ρ' lo' a' w' hk hs1 hr' hlp' hs => ?_)
    cases e with
    | normal => exact evL_sound hE y N hL.2 hk hr' hlp' fun e st'' r'' ρ'' lo'' a'' w'' hk' hs2 hr'' hlp'' hs' => hn e st'' r'' ρ'' lo'' a'' w'' hk' (fun y hy => hs1 y (hs2 y hy)) hr'' hlp'' (hs.trans hs')
    | exit i => exact hn _ st' r' ρ' lo' a' w' hk hs1 hr' hlp' hs
    | ret => exact hn _ st' r' ρ' lo' a' w' hk hs1 hr' hlp' hs
    | goto i => exact hn _ st' r' ρ' lo' a' w' hk hs1 hr' hlp' hs
  | .cond c x y, N, hL, st, K, r, ρ, lo, a, w, Q, he, hr, hlp, hn => by
    simp only [evL] at he
    split at he
    case h_2 => cases he
    rename_i t ht
    have hv := opnd_bool hr ht
    cases t
    · exact wp_cond_false hv (evL_sound hE y N hL.2 (by simpa using he) hr hlp hn)
    · exact wp_cond_true hv (evL_sound hE x N hL.1 (by simpa using he) hr hlp hn)
  | .block id c, N, hL, st, K, r, ρ, lo, a, w, Q, he, hr, hlp, hn => by
    simp only [evL] at he
    refine wp_block (evL_sound hE c N hL he hr hlp fun e st' r' ρ' lo' a' w' hk hs1 hr' hlp' hs => ?_)
    cases e with
    | normal => exact hn _ st' r' ρ' lo' a' w' hk hs1 hr' hlp' hs
    | ret => exact hn _ st' r' ρ' lo' a' w' hk hs1 hr' hlp' hs
    | goto i => exact hn _ st' r' ρ' lo' a' w' hk hs1 hr' hlp' hs
    | exit i =>
      simp only [X.exit', Exit.inBlock] at hk ⊢
      by_cases h : i = id
      · subst h
        rw [Nat.beq_refl] at hk
        simp only [if_true]
        exact hn .normal st' r' ρ' lo' a' w' hk hs1 hr' hlp' hs
      · have : Nat.beq i id = false := by
          cases hb : Nat.beq i id with
          | false => rfl
          | true => exact absurd (Nat.eq_of_beq_eq_true hb) h
        rw [this] at hk
        rw [if_neg h]
        exact hn (.exit i) st' r' ρ' lo' a' w' hk hs1 hr' hlp' hs
  | .loop c, N, hL, st, K, r, ρ, lo, a, w, Q, he, hr, hlp, hn => by
    simp only [evL] at he
    split at he
    · rename_i A hA
      have he' : ev E N (.loop c) st K = some r := by
        simp only [ev, hA]
        exact he
      exact ev_sound hE (.loop c) N hL he' hr hlp fun x st' ρ' lo' a' w' hk hr' hlp' hs => hn x st' r ρ' lo' a' w' hk (fun _ h => h) hr' hlp' hs
    · have key : ∀ (n : Nat) {st : St} {r' : List β} {ρ' : Ren} {lo' : Nat → Option Nat} {a' : Act} {w' : World},
          Nat.rec (motive := fun _ => St → Option (List β)) (fun _ => none) (fun _ ih st => evL E N c st fun x st => match x with
            | .normal => ih st
            | x => K x st) n st = some r' → (∀ y ∈ r', y ∈ r) → RelA E.n ρ' lo' st a' w' → LpOk E st → Step ρ lo w ρ' lo' w' → Code.rounds E.P c Q n a' w' := by
        intro n
        induction n with
        | zero => intro st r' ρ' lo' a' w' he _ _ _ _; cases he
        | succ n ih =>
          intro st r' ρ' lo' a' w' he hs1 hr hlp hs
          rw [rounds_succ]
          refine evL_sound hE c N hL.1 he hr hlp fun e st' r'' ρ'' lo'' a'' w'' hk hs2 hr' hlp' hs' => ?_
          have hsub : ∀ y ∈ r'', y ∈ r := fun y hy => hs1 y (hs2 y hy)
          cases e with
          | normal => exact ih hk hsub hr' hlp' (hs.trans hs')
          | exit i => exact hn _ st' r'' ρ'' lo'' a'' w'' hk hsub hr' hlp' (hs.trans hs')
          | ret => exact hn _ st' r'' ρ'' lo'' a'' w'' hk hsub hr' hlp' (hs.trans hs')
          | goto i => exact hn _ st' r'' ρ'' lo'' a'' w'' hk hsub hr' hlp' (hs.trans hs')
      exact wp_loop_rounds N (key N he (fun _ h => h) hr hlp (.refl _ _ _))
  | .exit id, N, hL, st, K, r, ρ, lo, a, w, Q, he, hr, hlp, hn => wp_exit (hn (.exit id) st r ρ lo a w he (fun _ h => h) hr hlp (.refl _ _ _))
  | .ret, N, hL, st, K, r, ρ, lo, a, w, Q, he, hr, hlp, hn => wp_ret (hn .ret st r ρ lo a w he (fun _ h => h) hr hlp (.refl _ _ _))
  | .label _, N, hL, st, K, r, ρ, lo, a, w, Q, he, hr, hlp, hn => wp_label (hn .normal st r ρ lo a w he (fun _ h => h) hr hlp (.refl _ _ _))
  | .goto l, N, hL, st, K, r, ρ, lo, a, w, Q, he, hr, hlp, hn => by simp only [evL] at he; cases he
  | .scope c, N, hL, st, K, r, ρ, lo, a, w, Q, he, hr, hlp, hn => by simp only [evL] at he; cases he
  | .rangeFunc .., N, hL, st, K, r, ρ, lo, a, w, Q, he, hr, hlp, hn => by simp only [evL] at he; cases he
  | .refuse _, N, hL, st, K, r, ρ, lo, a, w, Q, he, hr, hlp, hn => by simp only [evL] at he; cases he

end
end Go.L

namespace Go.L
noncomputable section

mutual
theorem V.beq_eq : ∀ (a b : V), V.beq a b = true → a = b
  | .bool a, b, h => by cases b <;> simp [V.beq] at h; rw [h]
  | .int k a, b, h => by cases b <;> simp [V.beq] at h; rw [h.1, h.2]
  | .float k a, b, h => by cases b <;> simp [V.beq] at h; rw [h.1, h.2]
  | .cplx k a c, b, h => by cases b <;> simp [V.beq] at h; rw [h.1.1, h.1.2, h.2]
  | .str a, b, h => by
    cases b <;> simp only [V.beq] at h <;> try cases h
    rename_i b
    have h := eq_of_beq h
    rw [ByteArray.toList_eq, ByteArray.toList_eq] at h
    rw [show a = b from ByteArray.ext (Array.ext' h)]
  | .nilp, b, h => by cases b <;> simp [V.beq] at h; rfl
  | .ptr a c d, b, h => by cases b <;> simp [V.beq] at h; rw [h.1.1, h.1.2, h.2]
  | .rptr a, b, h => by
    cases b <;> simp only [V.beq] at h <;> try cases h
    rw [V.beqs_eq _ _ h]
  | .nils, b, h => by cases b <;> simp [V.beq] at h; rfl
  | .sl a c d e f g, b, h => by cases b <;> simp [V.beq] at h; obtain ⟨⟨⟨⟨⟨h1, h2⟩, h3⟩, h4⟩, h5⟩, h6⟩ := h; subst h1; subst h2; subst h3; subst h4; subst h5; subst h6; rfl
  | .rs a c, b, h => by
    cases b <;> simp only [V.beq, Bool.and_eq_true] at h <;> try cases h
    rename_i h1 h2
    rw [V.beqs_eq _ _ h2, eq_of_beq h1]
  | .nilm, b, h => by cases b <;> simp [V.beq] at h; rfl
  | .map a, b, h => by cases b <;> simp [V.beq] at h; rw [h]
  | .nilf, b, h => by cases b <;> simp [V.beq] at h; rfl
  | .fn a c, b, h => by
    cases b <;> simp only [V.beq, Bool.and_eq_true] at h <;> try cases h
    rename_i h1 h2
    rw [V.beqs_eq _ _ h2, eq_of_beq h1]
  | .fnb a c, b, h => by
    cases b <;> simp only [V.beq, Bool.and_eq_true] at h <;> try cases h
    rename_i h1 h2
    rw [V.beqs_eq _ _ h2, eq_of_beq h1]
  | .agg a, b, h => by
    cases b <;> simp only [V.beq] at h <;> try cases h
    rw [V.beqs_eq _ _ h]
  | .tup a, b, h => by
    cases b <;> simp only [V.beq] at h <;> try cases h
    rw [V.beqs_eq _ _ h]
theorem V.beqs_eq : ∀ (a b : List V), V.beqs a b = true → a = b
  | [], [], _ => rfl
  | [], _ :: _, h => by simp [V.beqs] at h
  | _ :: _, [], h => by simp [V.beqs] at h
  | x :: a, y :: b, h => by
    simp only [V.beqs, Bool.and_eq_true] at h
    rw [V.beq_eq x y h.1, V.beqs_eq a b h.2]
end

def eqNats : List Nat → List Nat → Bool
  | [], [] => true
  | a :: r, b :: s => Nat.beq a b && eqNats r s
  | _, _ => false

theorem eqNats_eq : ∀ {a b : List Nat}, eqNats a b = true → a = b
  | [], [], _ => rfl
  | [], _ :: _, h => by simp [eqNats] at h
  | _ :: _, [], h => by simp [eqNats] at h
  | x :: a, y :: b, h => by
    simp only [eqNats, Bool.and_eq_true] at h
    rw [Nat.eq_of_beq_eq_true h.1, eqNats_eq h.2]

def eqEs : List (V × V) → List (V × V) → Bool
  | [], [] => true
  | a :: r, b :: s => V.beq a.1 b.1 && (V.beq a.2 b.2 && eqEs r s)
  | _, _ => false

theorem eqEs_eq : ∀ {a b : List (V × V)}, eqEs a b = true → a = b
  | [], [], _ => rfl
  | [], _ :: _, h => by simp [eqEs] at h
  | _ :: _, [], h => by simp [eqEs] at h
  | x :: a, y :: b, h => by
    simp only [eqEs, Bool.and_eq_true] at h
    rw [eqEs_eq h.2.2]
    have h1 := V.beq_eq _ _ h.1
    have h2 := V.beq_eq _ _ h.2.1
    cases x; cases y
    simp only at h1 h2
    rw [h1, h2]

def O.beq : O → O → Bool
  | .cells v cs, .cells v' cs' => Nat.beq v v' && V.beqs cs cs'
  | .map c bs es, .map c' bs' es' => Nat.beq c c' && (eqNats bs bs' && eqEs es es')
  | .iter m s l q, .iter m' s' l' q' => V.beq m m' && (Nat.beq s s' && (eqNats l l' && Nat.beq q q'))
  | .dead, .dead => true
  | .rsv, .rsv => true
  | _, _ => false

theorem O.beq_eq : ∀ {a b : O}, O.beq a b = true → a = b
  | .cells v cs, b, h => by
    cases b <;> simp only [O.beq, Bool.and_eq_true] at h <;> try cases h
    rename_i h1 h2
    rw [Nat.eq_of_beq_eq_true h1, V.beqs_eq _ _ h2]
  | .map c bs es, b, h => by
    cases b <;> simp only [O.beq, Bool.and_eq_true] at h <;> try cases h
    rename_i h1 h2
    rw [Nat.eq_of_beq_eq_true h1, eqNats_eq h2.1, eqEs_eq h2.2]
  | .iter m s l q, b, h => by
    cases b <;> simp only [O.beq, Bool.and_eq_true] at h <;> try cases h
    rename_i h1 h2
    rw [V.beq_eq _ _ h1, Nat.eq_of_beq_eq_true h2.1, eqNats_eq h2.2.1, Nat.eq_of_beq_eq_true h2.2.2]
  | .dead, b, h => by cases b <;> simp [O.beq] at h; rfl
  | .rsv, b, h => by cases b <;> simp [O.beq] at h; rfl

def O.isDead : O → Bool
  | .dead => true
  | _ => false

def O.isRsv : O → Bool
  | .rsv => true
  | _ => false

def mergeH : H → H → Option H
  | [], [] => some []
  | a :: r, b :: s => (mergeH r s).bind fun t => match O.beq a b with
    | true => some (a :: t)
    | false => match O.isRsv a || O.isRsv b with
      | true => none
      | false => some (.dead :: t)
  | _, _ => none

def Less : H → H → Bool
  | [], [] => true
  | a :: r, b :: s => (O.beq a b || (O.isDead b && !(O.isRsv a))) && Less r s
  | _, _ => false

theorem less_spec : ∀ {h h' : H}, Less h h' = true → h'.length = h.length ∧ ∀ (j : Nat), h'[j]? = h[j]? ∨ (h'[j]? = some .dead ∧ h[j]? ≠ some .rsv)
  | [], [], _ => ⟨rfl, fun j => .inl rfl⟩
  | [], _ :: _, h => by simp [Less] at h
  | _ :: _, [], h => by simp [Less] at h
  | a :: r, b :: s, h => by
    simp only [Less, Bool.and_eq_true, Bool.or_eq_true] at h
    obtain ⟨h1, h2⟩ := less_spec h.2
    refine ⟨by simp [h1], fun j => ?_⟩
    cases j with
    | zero =>
      rcases h.1 with e | e
      · left; rw [O.beq_eq e]; rfl
      · right
        refine ⟨?_, ?_⟩
        · have := e.1
          cases b <;> simp [O.isDead] at this
          rfl
        · have := e.2
          intro e2
          simp only [List.getElem?_cons_zero, Option.some.injEq] at e2
          subst e2
          simp [O.isRsv] at this
    | succ j => simpa using h2 j

theorem relH_less {ρ : Ren} {h h' : H} {w : World} (hh : RelH ρ h w) (hl : h'.length = h.length) (hs : ∀ (j : Nat), h'[j]? = h[j]? ∨ (h'[j]? = some .dead ∧ h[j]? ≠ some .rsv)) :
    ∃ ρ', RelH ρ' h' w ∧ Le ρ ρ' ∧ (∀ i g, ρ'.wr i = some g → ρ.wr i = some g) ∧ ρ'.ro = ρ.ro := by
  classical
  refine ⟨{ ρ with wr := fun i => if h'[i]? = h[i]? then ρ.wr i else none }, ⟨?_, ?_, ?_, ?_, ?_, ?_, ?_⟩, ⟨Nat.le_refl _, fun _ _ => Nat.le_refl _, ?_, fun _ _ h => h⟩, ?_, rfl⟩
  · show ρ.n = _; rw [hh.n, hl]
  · intro id o ho hlv
    rcases hs id with e | ⟨e, _⟩
    · obtain ⟨g, hg⟩ := hh.live id o (by rw [← e]; exact ho) hlv
      exact ⟨g, by simp only [if_pos e, hg]⟩
    · rw [e] at ho; cases ho; cases hlv
  · intro id g hg
    simp only at hg
    split at hg
    · rename_i e
      rw [e]
      obtain ⟨o, ob, h1, h2, h3, h4⟩ := hh.obj id g hg
      refine ⟨o, ob, h1, h2, ?_, h4⟩
      refine RelO.mono (ρ := ρ) (ρ' := { ρ with wr := fun i => if h'[i]? = h[i]? then ρ.wr i else none }) ⟨Nat.le_refl _, fun _ _ => Nat.le_refl _, fun i _ _ g' hg' => ?_, fun _ _ h => h⟩ h3
      simp only at hg'
      split at hg'
      · exact hg'
      · cases hg'
    · cases hg
  · intro i j g g' hi hj
    simp only at hi hj
    split at hi
    · split at hj
      · exact hh.inj i j g g' hi hj
      · cases hj
    · cases hi
  · exact hh.ro
  · intro i g hg
    simp only at hg
    split at hg
    · exact hh.sep i g hg
    · cases hg
  · intro id hid
    rcases hs id with e | ⟨e, _⟩
    · obtain ⟨h1, h2⟩ := hh.rsv id (by rw [← e]; exact hid)
      exact ⟨by simp only [if_pos e, h1], h2⟩
    · rw [e] at hid; cases hid
  · intro i _ _ g hg
    simp only at hg
    split at hg
    · exact hg
    · cases hg
  · intro i g hg
    simp only at hg
    split at hg
    · exact hg
    · cases hg

def common {rs : List SK} : List (Tup rs H) → Option (V × H)
  | [] => none
  | [s] => some (outR rs s)
  | s :: r => (common r).bind fun q => match V.beq (outR rs s).1 q.1 with
    | true => (mergeH (outR rs s).2 q.2).bind fun h => some (q.1, h)
    | false => none

def allLess {rs : List SK} (q : V × H) : List (Tup rs H) → Bool
  | [] => true
  | s :: r => (V.beq (outR rs s).1 q.1 && Less (outR rs s).2 q.2) && allLess q r

theorem allLess_mem {rs : List SK} {q : V × H} : ∀ {l : List (Tup rs H)}, allLess q l = true → ∀ s ∈ l, V.beq (outR rs s).1 q.1 = true ∧ Less (outR rs s).2 q.2 = true
  | [], _, s, hs => by cases hs
  | x :: l, h, s, hs => by
    simp only [allLess, Bool.and_eq_true] at h
    rcases List.mem_cons.1 hs with rfl | hs
    · exact h.1
    · exact allLess_mem h.2 s hs

def mkL (E : Env) (N : Nat) (fn : Func) (ks rs : List SK) : Fun :=
  ⟨V × H, fun vs h => (encVs ks vs (some h)).bind fun t => (evLT E N fn ks rs t).bind fun l => (common l).bind fun q => match allLess q l with
    | true => some q
    | false => none, id⟩

theorem evLT_calls {E : Env} (hE : Good E) {N : Nat} {f : FuncId} {fn : Func} (hf : E.P.funcs[f]? = some fn) (hn : fn.ntmps = E.n) (hL : ∀ c, fn.body = some c → LGood E N c) {ks rs : List SK} {t : Tup ks H} (hl : (decVs ks t).1.length ≤ E.n) (ha : ∀ i, i < (decVs ks t).1.length → E.lpT i = none) {l : List (Tup rs H)}
    (he : evLT E N fn ks rs t = some l) : ∀ (ρ : Ren) (w : World) (xs : Array Value), RelH ρ (decVs ks t).2 w → xs.size = (decVs ks t).1.length → (∀ (i : Nat) (a : V) (x : Value), (decVs ks t).1[i]? = some a → xs[i]? = some x → RelV ρ a x) →
    Calls E.P f xs w fun e w' => ∃ s ∈ l, ∃ ρ' x, e = .returned x ∧ RelH ρ' (outR rs s).2 w' ∧ Step ρ nol w ρ' nol w' ∧ RelV ρ' (outR rs s).1 x := by
  generalize hargs0 : (decVs ks t).1 = args at *
  generalize hh0 : (decVs ks t).2 = h at *
  intro ρ w xs hrel hsz hargs
  unfold evLT at he
  rw [hargs0, hh0] at he
  split at he
  case h_2 => cases he
  rename_i c hb
  refine calls_of_wp hf hb ?_
  have hr : RelA E.n ρ nol ⟨argSlots 0 args, [], h⟩ { tmps := xs ++ Array.replicate (fn.ntmps - xs.size) undef, defers := [] } w := by
    refine ⟨hrel, fun i => ?_, (fun t cs ht => by cases ht), (fun t b ht => by cases ht), (fun t b ht => by cases ht), (fun t t' b ht => by cases ht), by simp; omega, rfl⟩
    show RelS ρ nol (lk (argSlots 0 args) i) _
    rw [lk_argSlots]
    simp only [Nat.zero_le, if_true, Nat.sub_zero]
    split
    · rename_i u hu
      have hi : i < args.length := by
        rcases Nat.lt_or_ge i args.length with h | h
        · exact h
        · rw [List.getElem?_eq_none h] at hu; cases hu
      have hi' : i < xs.size := by omega
      have : (xs ++ Array.replicate (fn.ntmps - xs.size) undef).getD i undef = xs[i] := by
        rw [Array.getD_eq_getD_getElem?, Array.getElem?_append_left hi', Array.getElem?_eq_getElem hi']; rfl
      rw [this]
      exact hargs i u _ hu (Array.getElem?_eq_getElem hi')
    · trivial
  have hlp : LpOk E ⟨argSlots 0 args, [], h⟩ := fun i => by
    show lpOk E i (lk (argSlots 0 args) i) = true
    rw [lk_argSlots]
    simp only [Nat.zero_le, if_true, Nat.sub_zero]
    split
    · rename_i u hu
      have hi : i < args.length := by
        rcases Nat.lt_or_ge i args.length with h | h
        · exact h
        · rw [List.getElem?_eq_none h] at hu; cases hu
      simp only [lpOk, ha i hi]
    · rfl
  refine evL_sound hE c N (hL c hb) he hr hlp fun x st' r' ρ' lo' a' w' hk hsub hr' _ hs => ?_
  have fine : ((resVs E st' fn.results.toList fun vs => encVs rs vs (some st'.h)).bind fun r => some [r]) = some r' → a'.defers = [] ∧ ∃ y, (results fn a'.tmps).run E.P w' = .ok y w' ∧ ∃ s ∈ l, ∃ ρ' x, Ending.returned y = .returned x ∧ RelH ρ' (outR rs s).2 w' ∧ Step ρ nol w ρ' nol w' ∧ RelV ρ' (outR rs s).1 x := by
    intro hkk
    obtain ⟨s, hk0, e⟩ := Option.bind_eq_some_iff.1 hkk
    have e := Option.some.inj e
    subst e
    obtain ⟨vs, hk1, hk2⟩ := resVs_thru E st' _ _ _ _ hk0
    obtain ⟨y0, hy0, hd0⟩ := encVs_law rs vs _ s hk1
    cases hy0
    have hkv : resV E fn st' = some ((outR rs s).1, (outR rs s).2) := by
      unfold resV outR
      refine (hk2 _ _).trans ?_
      rw [hd0]
      cases vs with
      | nil => rfl
      | cons v vs => cases vs <;> rfl
    obtain ⟨y, h1, h2, h3⟩ := resV_run hr' hkv
    exact ⟨hr'.defs, y, h1, s, hsub s (List.mem_singleton.2 rfl), ρ', y, rfl, by rw [h3]; exact hr'.h, ⟨hs.le, hs.still, hs.size, fun b hb k1 k2 => by
      obtain ⟨m1, m2, _, m4⟩ := hs.keep b hb k1 k2
      exact ⟨m1, m2, fun _ => by simp [nol], m4⟩⟩, h2⟩
  cases x with
  | normal => exact fine hk
  | ret => exact fine hk
  | exit i => cases hk
  | goto i => cases hk

structure FineL (E : Env) (N : Nat) (f : FuncId) (fn : Func) (ks : List SK) : Prop where
  func : E.P.funcs[f]? = some fn
  name : (fn.name == "runtime.NumGoroutine") = false
  body : fn.body.isNone = false
  ntmps : fn.ntmps = E.n
  loops : ∀ c, fn.body = some c → LGood E N c
  lp : (List.range ks.length).all (fun i => (E.lpT i).isNone) = true
  args : Nat.ble ks.length E.n = true

theorem mkL_good {E : Env} {N : Nat} {f : FuncId} {fn : Func} {ks rs : List SK} (hF : FineL E N f fn ks) (hE : Good E) (vs : List V) (h : H) (s : V × H) (he : (mkL E N fn ks rs).F vs h = some s) :
    Callable E.P f ∧ Triple E.P f vs h ((mkL E N fn ks rs).out s).1 ((mkL E N fn ks rs).out s).2 := by
  refine ⟨⟨fn, hF.func, hF.name, hF.body⟩, ?_⟩
  obtain ⟨t, ht, he⟩ := Option.bind_eq_some_iff.1 he
  obtain ⟨l, hl, he⟩ := Option.bind_eq_some_iff.1 he
  obtain ⟨q, hq, he⟩ := Option.bind_eq_some_iff.1 he
  split at he
  case h_2 => cases he
  rename_i hall
  cases he
  obtain ⟨y, hy, hd⟩ := encVs_law ks vs _ t ht
  cases hy
  have hc := evLT_calls hE hF.func hF.ntmps hF.loops (ks := ks) (rs := rs) (t := t) (by rw [decVs_length]; exact Nat.le_of_ble_eq_true hF.args) (fun i hi => by
    have := hF.lp
    rw [List.all_eq_true] at this
    rw [decVs_length] at hi
    simpa using this i (by simpa using hi)) hl
  rw [hd] at hc
  intro ρ w xs hrel hsz hargs
  refine (hc ρ w xs hrel hsz hargs).mono fun e w' he => ?_
  obtain ⟨s, hs, ρ', x, e1, e2, e3, e4⟩ := he
  obtain ⟨k1, k2⟩ := allLess_mem hall s hs
  obtain ⟨k3, k4⟩ := less_spec k2
  obtain ⟨ρ2, m1, m2, m3, m4⟩ := relH_less e2 k3 k4
  refine ⟨ρ2, x, e1, m1, ⟨e3.le.trans m2, e3.still, e3.size, fun b hb n1 n2 => ?_⟩, ?_⟩
  · obtain ⟨p1, p2, p3, p4⟩ := e3.keep b hb n1 n2
    exact ⟨p1, fun i g hg => p2 i g (m3 i g hg), p3, by rw [m4]; exact p4⟩
  · have := V.beq_eq _ _ k1
    refine this ▸ ?_
    exact e4.mono m2

end
end Go.L

namespace Go.L
noncomputable section

mutual
def V.ren (f : Nat → Nat) : V → V
  | .ptr id v o => .ptr (f id) v o
  | .sl id v o l es c => .sl (f id) v o l es c
  | .map id => .map (f id)
  | .rptr cs => .rptr (V.rens f cs)
  | .rs es xs => .rs es (V.rens f xs)
  | .fn g cs => .fn g (V.rens f cs)
  | .fnb g cs => .fnb g (V.rens f cs)
  | .agg cs => .agg (V.rens f cs)
  | .tup cs => .tup (V.rens f cs)
  | .bool b => .bool b
  | .int k n => .int k n
  | .float k b => .float k b
  | .cplx k a b => .cplx k a b
  | .str s => .str s
  | .nilp => .nilp
  | .nils => .nils
  | .nilm => .nilm
  | .nilf => .nilf
def V.rens (f : Nat → Nat) : List V → List V
  | [] => []
  | v :: r => v.ren f :: V.rens f r
end

mutual
def V.ids : V → List Nat
  | .ptr id _ _ => [id]
  | .sl id _ _ _ _ _ => [id]
  | .map id => [id]
  | .rptr cs | .rs _ cs | .fn _ cs | .fnb _ cs | .agg cs | .tup cs => V.idss cs
  | _ => []
def V.idss : List V → List Nat
  | [] => []
  | v :: r => v.ids ++ V.idss r
end

theorem rens_get (f : Nat → Nat) : ∀ (l : List V) (i : Nat), (V.rens f l)[i]? = (l[i]?).map (V.ren f)
  | [], i => by simp [V.rens]
  | v :: l, 0 => by simp [V.rens]
  | v :: l, i + 1 => by simpa [V.rens] using rens_get f l i

theorem rens_len (f : Nat → Nat) : ∀ (l : List V), (V.rens f l).length = l.length
  | [] => rfl
  | v :: l => by simp [V.rens, rens_len f l]

theorem idss_mem : ∀ {l : List V} {i : Nat} {v : V}, l[i]? = some v → ∀ j ∈ v.ids, j ∈ V.idss l
  | [], i, v, h, j, hj => by simp at h
  | u :: l, 0, v, h, j, hj => by
    simp at h; subst h
    simp only [V.idss]
    exact List.mem_append_left _ hj
  | u :: l, i + 1, v, h, j, hj => by
    simp only [V.idss]
    exact List.mem_append_right _ (idss_mem (by simpa using h) j hj)

theorem rens_mem {f : Nat → Nat} : ∀ {l : List V} {u : V}, u ∈ V.rens f l → ∃ v ∈ l, u = v.ren f
  | [], u, h => by simp [V.rens] at h
  | v :: l, u, h => by
    simp only [V.rens] at h
    rcases List.mem_cons.1 h with rfl | h
    · exact ⟨v, List.mem_cons_self .., rfl⟩
    · obtain ⟨x, h1, h2⟩ := rens_mem h
      exact ⟨x, List.mem_cons_of_mem _ h1, h2⟩

theorem cells_ren (f : Nat → Nat) (v : V) : (v.ren f).cells = V.rens f v.cells := by
  cases v <;> simp [V.ren, V.cells, V.rens]

theorem cells_ids (v : V) : V.idss v.cells = v.ids := by
  cases v <;> simp [V.cells, V.idss, V.ids]

structure Renames (ρ ρ' : Ren) (f : Nat → Nat) (S : Nat → Prop) : Prop where
  at_ : ∀ i, S i → f i < ρ'.n ∧ ρ'.vers (f i) = ρ.vers i ∧ ρ'.wr (f i) = ρ.wr i
  ro : ∀ b o, ρ.ro b = some o → ρ'.ro b = some o

theorem ren_rel {ρ ρ' : Ren} {f : Nat → Nat} {S : Nat → Prop} (hf : Renames ρ ρ' f S) {v : V} {x : Value} (h : RelV ρ v x) : (∀ i ∈ v.ids, S i) → RelV ρ' (v.ren f) x := by
  induction h with
  | bool b => exact fun _ => .bool b
  | int k n => exact fun _ => .int k n
  | float k b => exact fun _ => .float k b
  | cplx k a b => exact fun _ => .cplx k a b
  | str s => exact fun _ => .str s
  | nilp => exact fun _ => .nilp
  | ptr id ver off a h1 h2 h3 =>
    intro hs
    obtain ⟨k1, k2, k3⟩ := hf.at_ id (hs id (by simp [V.ids]))
    exact .ptr _ _ _ _ k1 (by rw [k2]; exact h2) fun g hg hw => h3 g (by rw [← k2]; exact hg) (by rw [← k3]; exact hw)
  | rptr cs b off c e fr h1 h2 h3 h4 ih =>
    intro hs
    refine .rptr _ b off c e fr (hf.ro _ _ h1) (fun i hi => h2 i (by rw [← rens_len f cs]; exact hi)) (fun i v x hv hx => ?_) (fun i x hi hx => h4 i x (by rw [← rens_len f cs]; exact hi) hx)
    rw [rens_get] at hv
    obtain ⟨u, hu, rfl⟩ := Option.map_eq_some_iff.1 hv
    exact ih i u x hu hx fun j hj => hs j (by simp only [V.ids]; exact idss_mem hu j hj)
  | nils => exact fun _ => .nils
  | sl id ver off len es cap a rc h1 h2 h3 h4 h5 =>
    intro hs
    obtain ⟨k1, k2, k3⟩ := hf.at_ id (hs id (by simp [V.ids]))
    exact .sl _ _ _ _ _ _ _ _ k1 (by rw [k2]; exact h2) h3 h4 fun g hg hw => h5 g (by rw [← k2]; exact hg) (by rw [← k3]; exact hw)
  | rs0 es a rc h => exact fun _ => .rs0 es a rc h
  | rs es xs b off c e fr rc h0 h1 h2 h3 h4 h5 ih =>
    intro hs
    have hl : (V.rens f xs).length = xs.length := rens_len f xs
    have key : RelV ρ' (.rs es (V.rens f xs)) (.slice (some ⟨b, off, none⟩) (V.rens f xs).length rc) := by
      refine .rs es _ b off c e fr rc (by rw [hl]; exact h0) (hf.ro _ _ h1) (by rw [hl]; exact h2) (fun v hv => ?_) (fun i v j y x hv hy hx => ?_) (fun i x hi hx => h5 i x (by rw [← hl]; exact hi) hx)
      · obtain ⟨u, hu, rfl⟩ := rens_mem hv
        rw [cells_ren, rens_len]; exact h3 u hu
      · rw [rens_get] at hv
        obtain ⟨u, hu, rfl⟩ := Option.map_eq_some_iff.1 hv
        rw [cells_ren, rens_get] at hy
        obtain ⟨z, hz, rfl⟩ := Option.map_eq_some_iff.1 hy
        refine ih i u j z x hu hz hx fun q hq => hs q ?_
        simp only [V.ids]
        refine idss_mem hu q ?_
        rw [← cells_ids]
        exact idss_mem hz q hq
    rw [hl] at key
    exact key
  | nilm => exact fun _ => .nilm
  | map id r h1 h2 =>
    intro hs
    obtain ⟨k1, k2, k3⟩ := hf.at_ id (hs id (by simp [V.ids]))
    exact .map _ _ k1 fun g hv hg => h2 g (by rw [← k2]; exact hv) (by rw [← k3]; exact hg)
  | nilf => exact fun _ => .nilf
  | fn g cs xs h1 h2 ih =>
    intro hs
    refine .fn _ _ _ (by rw [rens_len]; exact h1) fun i v x hv hx => ?_
    rw [rens_get] at hv
    obtain ⟨u, hu, rfl⟩ := Option.map_eq_some_iff.1 hv
    exact ih i u x hu hx fun j hj => hs j (by simp only [V.ids]; exact idss_mem hu j hj)
  | fnb g cs xs h1 h2 ih =>
    intro hs
    refine .fnb _ _ _ (by rw [rens_len]; exact h1) fun i v x hv hx => ?_
    rw [rens_get] at hv
    obtain ⟨u, hu, rfl⟩ := Option.map_eq_some_iff.1 hv
    exact ih i u x hu hx fun j hj => hs j (by simp only [V.ids]; exact idss_mem hu j hj)
  | agg cs xs h1 h2 h3 ih =>
    intro hs
    refine .agg _ _ (by rw [rens_len]; exact h1) (fun i v x hv hx => ?_) h3
    rw [rens_get] at hv
    obtain ⟨u, hu, rfl⟩ := Option.map_eq_some_iff.1 hv
    exact ih i u x hu hx fun j hj => hs j (by simp only [V.ids]; exact idss_mem hu j hj)
  | tup cs xs h1 h2 ih =>
    intro hs
    refine .tup _ _ (by rw [rens_len]; exact h1) fun i v x hv hx => ?_
    rw [rens_get] at hv
    obtain ⟨u, hu, rfl⟩ := Option.map_eq_some_iff.1 hv
    exact ih i u x hu hx fun j hj => hs j (by simp only [V.ids]; exact idss_mem hu j hj)

def renEs (f : Nat → Nat) : List (V × V) → List (V × V)
  | [] => []
  | e :: r => (e.1.ren f, e.2.ren f) :: renEs f r

def idsEs : List (V × V) → List Nat
  | [] => []
  | e :: r => e.1.ids ++ (e.2.ids ++ idsEs r)

theorem renEs_get (f : Nat → Nat) : ∀ (l : List (V × V)) (i : Nat), (renEs f l)[i]? = (l[i]?).map fun e => (e.1.ren f, e.2.ren f)
  | [], i => by simp [renEs]
  | v :: l, 0 => by simp [renEs]
  | v :: l, i + 1 => by simpa [renEs] using renEs_get f l i

theorem renEs_len (f : Nat → Nat) : ∀ (l : List (V × V)), (renEs f l).length = l.length
  | [] => rfl
  | v :: l => by simp [renEs, renEs_len f l]

theorem idsEs_mem : ∀ {l : List (V × V)} {i : Nat} {e : V × V}, l[i]? = some e → (∀ j ∈ e.1.ids, j ∈ idsEs l) ∧ (∀ j ∈ e.2.ids, j ∈ idsEs l)
  | [], i, e, h => by simp at h
  | u :: l, 0, e, h => by
    simp at h; subst h
    simp only [idsEs]
    exact ⟨fun j hj => List.mem_append_left _ hj, fun j hj => List.mem_append_right _ (List.mem_append_left _ hj)⟩
  | u :: l, i + 1, e, h => by
    obtain ⟨h1, h2⟩ := idsEs_mem (l := l) (i := i) (e := e) (by simpa using h)
    simp only [idsEs]
    exact ⟨fun j hj => List.mem_append_right _ (List.mem_append_right _ (h1 j hj)), fun j hj => List.mem_append_right _ (List.mem_append_right _ (h2 j hj))⟩

def O.ren (f : Nat → Nat) : O → O
  | .cells v cs => .cells v (V.rens f cs)
  | .map c bs es => .map c bs (renEs f es)
  | .iter m s l q => .iter (m.ren f) s l q
  | .dead => .dead
  | .rsv => .rsv

def O.ids : O → List Nat
  | .cells _ cs => V.idss cs
  | .map _ _ es => idsEs es
  | .iter m _ _ _ => m.ids
  | _ => []

theorem oren_rel {ρ ρ' : Ren} {f : Nat → Nat} {S : Nat → Prop} (hf : Renames ρ ρ' f S) {g : Img} {o : O} {ob : Obj} (h : RelO ρ g o ob) (hs : ∀ i ∈ o.ids, S i) : RelO ρ' g (o.ren f) ob := by
  cases o with
  | cells v cs =>
    cases ob with
    | cells c e fr =>
      obtain ⟨h1, h2, h3, h4⟩ := h
      refine ⟨h1, by rw [rens_len]; exact h2, h3, fun i x y hx hy => ?_⟩
      rw [rens_get] at hx
      obtain ⟨u, hu, rfl⟩ := Option.map_eq_some_iff.1 hx
      obtain ⟨k1, k2⟩ := h4 i u y hu hy
      exact ⟨ren_rel hf k1 fun j hj => hs j (idss_mem hu j hj), k2⟩
    | _ => exact h.elim
  | map c bs es =>
    cases ob with
    | map ms c' =>
      obtain ⟨h1, h2, h3⟩ := h
      refine ⟨h1, by rw [renEs_len]; exact h2, fun i e m he hm => ?_⟩
      rw [renEs_get] at he
      obtain ⟨u, hu, rfl⟩ := Option.map_eq_some_iff.1 he
      obtain ⟨k1, k2⟩ := h3 i u m hu hm
      obtain ⟨j1, j2⟩ := idsEs_mem hu
      exact ⟨ren_rel hf k1 fun j hj => hs j (j1 j hj), ren_rel hf k2 fun j hj => hs j (j2 j hj)⟩
    | _ => exact h.elim
  | iter m s l q =>
    cases ob with
    | mapIter mo s' l' q' =>
      obtain ⟨h1, h2, h3⟩ := h
      exact ⟨h1, ren_rel hf h2 hs, h3⟩
    | _ => exact h.elim
  | dead => exact h.elim
  | rsv => exact h.elim

theorem oren_ver (f : Nat → Nat) (o : O) : (o.ren f).ver = o.ver := by cases o <;> rfl
theorem oren_live (f : Nat → Nat) (o : O) : (o.ren f).live = o.live := by cases o <;> rfl
theorem oren_rsv {f : Nat → Nat} {o : O} (h : o.ren f = .rsv) : o = .rsv := by cases o <;> simp [O.ren] at h; rfl

mutual
theorem ren_ren {f g : Nat → Nat} : ∀ (v : V), (∀ i ∈ v.ids, g (f i) = i) → (v.ren f).ren g = v
  | .ptr id v o, h => by simp [V.ren, h id (by simp [V.ids])]
  | .sl id v o l es c, h => by simp [V.ren, h id (by simp [V.ids])]
  | .map id, h => by simp [V.ren, h id (by simp [V.ids])]
  | .rptr cs, h => by simp only [V.ren]; rw [rens_rens cs (by simpa [V.ids] using h)]
  | .rs es cs, h => by simp only [V.ren]; rw [rens_rens cs (by simpa [V.ids] using h)]
  | .fn _ cs, h => by simp only [V.ren]; rw [rens_rens cs (by simpa [V.ids] using h)]
  | .fnb _ cs, h => by simp only [V.ren]; rw [rens_rens cs (by simpa [V.ids] using h)]
  | .agg cs, h => by simp only [V.ren]; rw [rens_rens cs (by simpa [V.ids] using h)]
  | .tup cs, h => by simp only [V.ren]; rw [rens_rens cs (by simpa [V.ids] using h)]
  | .bool _, _ => rfl
  | .int _ _, _ => rfl
  | .float _ _, _ => rfl
  | .cplx _ _ _, _ => rfl
  | .str _, _ => rfl
  | .nilp, _ => rfl
  | .nils, _ => rfl
  | .nilm, _ => rfl
  | .nilf, _ => rfl
theorem rens_rens {f g : Nat → Nat} : ∀ (l : List V), (∀ i ∈ V.idss l, g (f i) = i) → V.rens g (V.rens f l) = l
  | [], _ => rfl
  | v :: l, h => by
    simp only [V.idss] at h
    simp only [V.rens]
    rw [ren_ren v fun i hi => h i (List.mem_append_left _ hi), rens_rens l fun i hi => h i (List.mem_append_right _ hi)]
end

theorem renEs_renEs {f g : Nat → Nat} : ∀ (l : List (V × V)), (∀ i ∈ idsEs l, g (f i) = i) → renEs g (renEs f l) = l
  | [], _ => rfl
  | e :: l, h => by
    simp only [idsEs] at h
    simp only [renEs]
    rw [ren_ren e.1 fun i hi => h i (List.mem_append_left _ hi), ren_ren e.2 fun i hi => h i (List.mem_append_right _ (List.mem_append_left _ hi)), renEs_renEs l fun i hi => h i (List.mem_append_right _ (List.mem_append_right _ hi))]

theorem oren_oren {f g : Nat → Nat} (o : O) (h : ∀ i ∈ o.ids, g (f i) = i) : (o.ren f).ren g = o := by
  cases o with
  | cells v cs => simp only [O.ren]; rw [rens_rens cs h]
  | map c bs es => simp only [O.ren]; rw [renEs_renEs es h]
  | iter m s l q => simp only [O.ren]; rw [ren_ren m h]
  | dead => rfl
  | rsv => rfl

def reach (h : H) : Nat → List Nat → List Nat → Option (List Nat)
  | 0, _, _ => none
  | n + 1, work, seen => match work with
    | [] => some seen
    | i :: work => match seen.contains i with
      | true => reach h n work seen
      | false => match h[i]? with
        | some o => reach h n (o.ids ++ work) (seen ++ [i])
        | none => none

def idx : List Nat → Nat → Nat
  | [], _ => 0
  | a :: r, i => match Nat.beq a i with
    | true => 0
    | false => idx r i + 1

def nodupB : List Nat → Bool
  | [] => true
  | a :: r => !(r.contains a) && nodupB r

theorem nodupB_spec : ∀ {l : List Nat}, nodupB l = true → l.Nodup
  | [], _ => List.nodup_nil
  | a :: r, h => by
    simp only [nodupB, Bool.and_eq_true, Bool.not_eq_true'] at h
    refine List.nodup_cons.2 ⟨fun hm => ?_, nodupB_spec h.2⟩
    have := h.1
    rw [List.contains_iff_mem.2 hm] at this
    cases this

theorem idx_get : ∀ {l : List Nat} {i : Nat}, i ∈ l → l[idx l i]? = some i
  | [], i, h => by cases h
  | a :: r, i, h => by
    unfold idx
    split
    · rename_i hb
      rw [Nat.eq_of_beq_eq_true hb]; rfl
    · rename_i hb
      rcases List.mem_cons.1 h with rfl | h
      · rw [Nat.beq_refl] at hb; cases hb
      · simpa using idx_get h

theorem idx_lt {l : List Nat} {i : Nat} (h : i ∈ l) : idx l i < l.length := (List.getElem?_eq_some_iff.1 (idx_get h)).1

theorem nodup_idx {l : List Nat} (hn : l.Nodup) {i j : Nat} (h : l[j]? = some i) : idx l i = j := by
  have h1 := idx_get (List.mem_of_getElem? h)
  have hj := (List.getElem?_eq_some_iff.1 h).1
  exact (List.getElem?_inj (idx_lt (List.mem_of_getElem? h)) hn).1 (by rw [h1, h])

def setAll (h : H) : List Nat → List O → H
  | i :: is, o :: os => (setAll h is os).set i o
  | _, _ => h

theorem setAll_len : ∀ (h : H) (is : List Nat) (os : List O), (setAll h is os).length = h.length
  | h, [], _ => rfl
  | h, _ :: _, [] => rfl
  | h, i :: is, o :: os => by simp [setAll, setAll_len h is os]

theorem setAll_out : ∀ {h : H} {is : List Nat} {os : List O} {i : Nat}, i ∉ is → (setAll h is os)[i]? = h[i]?
  | h, [], _, i, _ => rfl
  | h, _ :: _, [], i, _ => rfl
  | h, j :: is, o :: os, i, hi => by
    rw [setAll, List.getElem?_set_ne (fun e => hi (by rw [e]; exact List.mem_cons_self ..))]
    exact setAll_out fun hm => hi (List.mem_cons_of_mem _ hm)

theorem setAll_in : ∀ {h : H} {is : List Nat} {os : List O}, is.Nodup → is.length = os.length → (∀ i ∈ is, i < h.length) → ∀ {j i : Nat}, is[j]? = some i → (setAll h is os)[i]? = os[j]?
  | h, [], _, _, _, _, j, i, hj => by simp at hj
  | h, _ :: _, [], _, hl, _, j, i, hj => by simp at hl
  | h, a :: is, o :: os, hn, hl, hb, j, i, hj => by
    obtain ⟨hn1, hn2⟩ := List.nodup_cons.1 hn
    cases j with
    | zero =>
      simp at hj
      subst hj
      rw [setAll, List.getElem?_set, if_pos rfl, if_pos (by rw [setAll_len]; exact hb a (List.mem_cons_self ..))]
      rfl
    | succ j =>
      have hj : is[j]? = some i := by simpa using hj
      have hne : a ≠ i := fun e => hn1 (by rw [e]; exact List.mem_of_getElem? hj)
      rw [setAll, List.getElem?_set_ne hne, setAll_in hn2 (by simpa using hl) (fun i hi => hb i (List.mem_cons_of_mem _ hi)) hj]
      simp

def within (p : Nat → Bool) : List Nat → Bool
  | [] => true
  | i :: r => match p i with
    | true => within p r
    | false => false

theorem within_mem {p : Nat → Bool} : ∀ {l : List Nat}, within p l = true → ∀ i ∈ l, p i = true
  | a :: r, h, i, hi => by
    unfold within at h
    split at h
    · rename_i ha
      rcases List.mem_cons.1 hi with rfl | hi
      · exact ha
      · exact within_mem h i hi
    · cases h

def pickO (h : H) (f : Nat → Nat) : List Nat → Option (List O)
  | [] => some []
  | i :: r => match h[i]? with
    | some o => (pickO h f r).bind fun os => some (o.ren f :: os)
    | none => none

theorem pickO_spec {h : H} {f : Nat → Nat} : ∀ {l : List Nat} {os : List O}, pickO h f l = some os → os.length = l.length ∧ ∀ (j i : Nat), l[j]? = some i → ∃ o, h[i]? = some o ∧ os[j]? = some (o.ren f)
  | [], os, e => by simp [pickO] at e; subst e; exact ⟨rfl, fun j i h => by simp at h⟩
  | a :: r, os, e => by
    simp only [pickO] at e
    split at e
    · rename_i o ho
      obtain ⟨os', h1, e⟩ := Option.bind_eq_some_iff.1 e
      cases e
      obtain ⟨k1, k2⟩ := pickO_spec h1
      refine ⟨by simp [k1], fun j i hj => ?_⟩
      cases j with
      | zero => simp at hj; subst hj; exact ⟨o, ho, rfl⟩
      | succ j => simpa using k2 j i (by simpa using hj)
    · cases e

def leadB (h : H) (p : Nat → Bool) : List Nat → Bool
  | [] => true
  | i :: r => match h[i]? with
    | some o => match within p o.ids with
      | true => leadB h p r
      | false => false
    | none => false

theorem leadB_mem {h : H} {p : Nat → Bool} : ∀ {l : List Nat}, leadB h p l = true → ∀ i ∈ l, ∃ o, h[i]? = some o ∧ ∀ j ∈ o.ids, p j = true
  | a :: r, e, i, hi => by
    unfold leadB at e
    split at e
    · rename_i o ho
      split at e
      · rename_i hw
        rcases List.mem_cons.1 hi with rfl | hi
        · exact ⟨o, ho, within_mem hw⟩
        · exact leadB_mem e i hi
      · cases e
    · cases e

def eqOs : List O → List O → Bool
  | [], _ => true
  | a :: r, b :: s => match O.beq a b with
    | true => eqOs r s
    | false => false
  | _ :: _, [] => false

theorem eqOs_get : ∀ {a b : List O}, eqOs a b = true → ∀ (i : Nat) (o : O), a[i]? = some o → b[i]? = some o
  | [], _, _, i, o, hi => by simp at hi
  | _ :: _, [], h, _, _, _ => by simp [eqOs] at h
  | x :: a, y :: b, h, i, o, hi => by
    unfold eqOs at h
    split at h
    · rename_i hb
      cases i with
      | zero => simp at hi; subst hi; rw [O.beq_eq hb]; rfl
      | succ i => simpa using eqOs_get h i o (by simpa using hi)
    · cases h

def backF (n : Nat) (ids nk : List Nat) (j : Nat) : Nat :=
  match Nat.blt j ids.length with
  | true => ids.getD j 0
  | false => n + idx nk j

def locV (gro : Bool) (F : List V → H → Option (List V × H)) (vs : List V) (h : H) : Option (List V × H) :=
  (reach h 1000000 (V.idss vs) []).bind fun ids => match nodupB ids with
  | false => none
  | true => match within ids.contains (V.idss vs) with
    | false => none
    | true => match leadB h ids.contains ids with
      | false => none
      | true => (pickO h (idx ids) ids).bind fun h1 => (F (V.rens (idx ids) vs) h1).bind fun s =>
        match Nat.ble ids.length s.2.length with
        | false => none
        | true => (reach s.2 1000000 (List.range ids.length ++ V.idss s.1) []).bind fun keep => (some (keep.filter fun j => Nat.ble ids.length j)).bind fun nk => match nodupB nk with
          | false => none
          | true => match within (fun j => Nat.blt j ids.length || nk.contains j) (V.idss s.1) with
            | false => none
            | true => match leadB s.2 (fun j => Nat.blt j ids.length || nk.contains j) (List.range ids.length ++ nk) with
              | false => none
              | true => match gro with
                | true => match eqOs h1 s.2 with
                  | false => none
                  | true => (pickO s.2 (backF h.length ids nk) nk).bind fun new => some (V.rens (backF h.length ids nk) s.1, h ++ new)
                | false => (pickO s.2 (backF h.length ids nk) (List.range ids.length)).bind fun old => (pickO s.2 (backF h.length ids nk) nk).bind fun new =>
                  some (V.rens (backF h.length ids nk) s.1, setAll h ids old ++ new)

end
end Go.L

namespace Go.L
noncomputable section

def one (ws : List V) : V :=
  match ws with
  | [v] => v
  | vs => .tup vs

theorem one_ren (f : Nat → Nat) (ws : List V) : one (V.rens f ws) = (one ws).ren f := by
  match ws with
  | [] => rfl
  | [v] => rfl
  | u :: v :: r => rfl

theorem one_ids (ws : List V) : ∀ i ∈ (one ws).ids, i ∈ V.idss ws := by
  match ws with
  | [] => intro i hi; simpa [one, V.ids] using hi
  | [v] => intro i hi; simp only [one] at hi; simp only [V.idss]; exact List.mem_append_left _ hi
  | u :: v :: r => intro i hi; simpa [one, V.ids] using hi

theorem contains_mem {l : List Nat} {i : Nat} (h : l.contains i = true) : i ∈ l := List.contains_iff_mem.1 h

def inRen (ρ : Ren) (ids : List Nat) : Ren where
  n := ids.length
  vers j := ρ.vers (ids.getD j 0)
  wr j := if j < ids.length then ρ.wr (ids.getD j 0) else none
  ro := ρ.ro

theorem getD_at {l : List Nat} {j i : Nat} (h : l[j]? = some i) : l.getD j 0 = i := by rw [List.getD_eq_getElem?_getD, h]; rfl

theorem inRen_renames (ρ : Ren) (ids : List Nat) : Renames ρ (inRen ρ ids) (idx ids) (· ∈ ids) :=
  ⟨fun i hi => ⟨idx_lt hi, by simp only [inRen, getD_at (idx_get hi)], by simp only [inRen, if_pos (idx_lt hi), getD_at (idx_get hi)]⟩, fun _ _ h => h⟩

theorem small_rel {ρ : Ren} {h : H} {w : World} (hh : RelH ρ h w) {ids : List Nat} (hn : ids.Nodup) {h1 : List O} (hp : pickO h (idx ids) ids = some h1)
    (hl : ∀ i ∈ ids, ∃ o, h[i]? = some o ∧ ∀ j ∈ o.ids, j ∈ ids) : RelH (inRen ρ ids) h1 w := by
  obtain ⟨p1, p2⟩ := pickO_spec hp
  have at_ : ∀ {j : Nat} {o : O}, h1[j]? = some o → ∃ i o0, ids[j]? = some i ∧ h[i]? = some o0 ∧ o = o0.ren (idx ids) ∧ ∀ q ∈ o0.ids, q ∈ ids := by
    intro j o ho
    have hj : j < ids.length := by rw [← p1]; exact (List.getElem?_eq_some_iff.1 ho).1
    obtain ⟨o0, k1, k2⟩ := p2 j _ (List.getElem?_eq_getElem hj)
    rw [ho] at k2
    obtain ⟨o1, k3, k4⟩ := hl _ (List.getElem_mem hj)
    rw [k1] at k3; cases k3
    exact ⟨_, o0, List.getElem?_eq_getElem hj, k1, Option.some.inj k2, k4⟩
  have wr_ : ∀ {j : Nat} {g : Img}, (inRen ρ ids).wr j = some g → ∃ i, ids[j]? = some i ∧ ρ.wr i = some g := by
    intro j g hg
    simp only [inRen] at hg
    split at hg
    · rename_i hj
      exact ⟨_, List.getElem?_eq_getElem hj, by rw [getD_at (List.getElem?_eq_getElem hj)] at hg; exact hg⟩
    · cases hg
  have wr2 : ∀ {j i : Nat}, ids[j]? = some i → (inRen ρ ids).wr j = ρ.wr i ∧ (inRen ρ ids).vers j = ρ.vers i := by
    intro j i hj
    have hlt := (List.getElem?_eq_some_iff.1 hj).1
    exact ⟨by simp only [inRen, if_pos hlt, getD_at hj], by simp only [inRen, getD_at hj]⟩
  refine ⟨p1.symm, ?_, ?_, ?_, hh.ro, ?_, ?_⟩
  · intro j o ho hlv
    obtain ⟨i, o0, k1, k2, rfl, _⟩ := at_ ho
    rw [oren_live] at hlv
    obtain ⟨g, hg⟩ := hh.live i o0 k2 hlv
    exact ⟨g, by rw [(wr2 k1).1]; exact hg⟩
  · intro j g hg
    obtain ⟨i, k1, k2⟩ := wr_ hg
    obtain ⟨o, ob, m1, m2, m3, m4⟩ := hh.obj i g k2
    obtain ⟨o0, q1, q2⟩ := p2 j i k1
    rw [m1] at q1; cases q1
    obtain ⟨o1, r1, r2⟩ := hl i (List.mem_of_getElem? k1)
    rw [m1] at r1; cases r1
    exact ⟨_, ob, q2, m2, oren_rel (inRen_renames ρ ids) m3 r2, by rw [(wr2 k1).2, oren_ver]; exact m4⟩
  · intro i j g g' hi hj hb
    obtain ⟨a, k1, k2⟩ := wr_ hi
    obtain ⟨b, k3, k4⟩ := wr_ hj
    have := hh.inj a b g g' k2 k4 hb
    subst this
    exact (List.getElem?_inj (List.getElem?_eq_some_iff.1 k1).1 hn).1 (by rw [k1, k3])
  · intro j g hg
    obtain ⟨i, _, k2⟩ := wr_ hg
    exact hh.sep i g k2
  · intro j ho
    obtain ⟨i, o0, k1, k2, e, _⟩ := at_ ho
    have := oren_rsv e.symm
    subst this
    obtain ⟨m1, m2⟩ := hh.rsv i k2
    exact ⟨by rw [(wr2 k1).1]; exact m1, by rw [(wr2 k1).2]; exact m2⟩

def outRen (ρ ρ1 : Ren) (n : Nat) (ids nk : List Nat) : Ren where
  n := n + nk.length
  vers i := if i < n then (if ids.contains i = true then ρ1.vers (idx ids i) else ρ.vers i) else ρ1.vers (nk.getD (i - n) 0)
  wr i := if i < n then (if ids.contains i = true then ρ1.wr (idx ids i) else ρ.wr i) else (if i - n < nk.length then ρ1.wr (nk.getD (i - n) 0) else none)
  ro := ρ1.ro

theorem out_old {ρ ρ1 : Ren} {n : Nat} {ids nk : List Nat} {i : Nat} (h : i < n) (hi : ids.contains i = true) : (outRen ρ ρ1 n ids nk).wr i = ρ1.wr (idx ids i) ∧ (outRen ρ ρ1 n ids nk).vers i = ρ1.vers (idx ids i) := by
  simp only [outRen, if_pos h, if_pos hi, and_self]

theorem out_rest {ρ ρ1 : Ren} {n : Nat} {ids nk : List Nat} {i : Nat} (h : i < n) (hi : ¬ ids.contains i = true) : (outRen ρ ρ1 n ids nk).wr i = ρ.wr i ∧ (outRen ρ ρ1 n ids nk).vers i = ρ.vers i := by
  simp only [outRen, if_pos h, if_neg hi, and_self]

theorem out_new {ρ ρ1 : Ren} {n : Nat} {ids nk : List Nat} {m j : Nat} (h : nk[m]? = some j) : (outRen ρ ρ1 n ids nk).wr (n + m) = ρ1.wr j ∧ (outRen ρ ρ1 n ids nk).vers (n + m) = ρ1.vers j := by
  have hm := (List.getElem?_eq_some_iff.1 h).1
  have h1 : ¬ n + m < n := by omega
  have h2 : n + m - n = m := by omega
  simp only [outRen, if_neg h1, h2, if_pos hm, getD_at h, and_self]

theorem out_wr {ρ ρ1 : Ren} {n : Nat} {ids nk : List Nat} {i : Nat} {g : Img} (h : (outRen ρ ρ1 n ids nk).wr i = some g) :
    (i < n ∧ ids.contains i = true ∧ ρ1.wr (idx ids i) = some g) ∨ (i < n ∧ ¬ ids.contains i = true ∧ ρ.wr i = some g) ∨ ∃ m j, i = n + m ∧ nk[m]? = some j ∧ ρ1.wr j = some g := by
  simp only [outRen] at h
  split at h
  · split at h
    · exact .inl ⟨by assumption, by assumption, h⟩
    · exact .inr (.inl ⟨by assumption, by assumption, h⟩)
  · split at h
    · rename_i h1 h2
      refine .inr (.inr ⟨i - n, _, by omega, List.getElem?_eq_getElem h2, ?_⟩)
      rw [getD_at (List.getElem?_eq_getElem h2)] at h
      exact h
    · cases h

structure Back (h h1 : H) (ids nk : List Nat) (h' : H) : Prop where
  len : h'.length = h.length + nk.length
  old : ∀ i, i < h.length → ids.contains i = true → ∃ o, h1[idx ids i]? = some o ∧ h'[i]? = some (o.ren (backF h.length ids nk))
  rest : ∀ i, i < h.length → ¬ ids.contains i = true → h'[i]? = h[i]?
  new : ∀ m j, nk[m]? = some j → ∃ o, h1[j]? = some o ∧ h'[h.length + m]? = some (o.ren (backF h.length ids nk))
  lead : ∀ j o, (j < ids.length ∨ j ∈ nk) → h1[j]? = some o → ∀ q ∈ o.ids, q < ids.length ∨ q ∈ nk

theorem back_renames {ρ ρ1 : Ren} {n : Nat} {ids nk : List Nat} (hn : ids.Nodup) (hin : ∀ i ∈ ids, i < n) :
    Renames ρ1 (outRen ρ ρ1 n ids nk) (backF n ids nk) (fun j => j < ids.length ∨ j ∈ nk) := by
  refine ⟨fun j hj => ?_, fun _ _ h => h⟩
  unfold backF
  by_cases hlt : j < ids.length
  · have e : Nat.blt j ids.length = true := by rw [blt_dec]; simpa using hlt
    rw [e]
    simp only
    have hg := List.getElem?_eq_getElem hlt
    rw [getD_at hg]
    have hm := List.getElem_mem hlt
    have hc : ids.contains ids[j] = true := List.contains_iff_mem.2 hm
    obtain ⟨k1, k2⟩ := out_old (ρ := ρ) (ρ1 := ρ1) (nk := nk) (hin _ hm) hc
    rw [nodup_idx hn hg] at k1 k2
    exact ⟨Nat.lt_of_lt_of_le (hin _ hm) (Nat.le_add_right _ _), k2, k1⟩
  · have e : Nat.blt j ids.length = false := by rw [blt_dec]; simpa using hlt
    rw [e]
    simp only
    rcases hj with hj | hj
    · exact absurd hj hlt
    · obtain ⟨k1, k2⟩ := out_new (ρ := ρ) (ρ1 := ρ1) (n := n) (ids := ids) (idx_get hj)
      exact ⟨Nat.add_lt_add_left (idx_lt hj) _, k2, k1⟩

theorem back_rel {ρ ρ1 : Ren} {h h1 h' : H} {w w' : World} {ids nk : List Nat} (hh : RelH ρ h w) (hn : ids.Nodup) (hin : ∀ i ∈ ids, i < h.length) (hk : ∀ j ∈ nk, ids.length ≤ j) (hnk : nk.Nodup)
    (h1r : RelH ρ1 h1 w') (hs : Step (inRen ρ ids) nol w ρ1 nol w') (hb : Back h h1 ids nk h') :
    RelH (outRen ρ ρ1 h.length ids nk) h' w' ∧ Step ρ nol w (outRen ρ ρ1 h.length ids nk) nol w' := by
  have hren := back_renames (ρ := ρ) (ρ1 := ρ1) (n := h.length) (ids := ids) (nk := nk) hn hin
  have inwr : ∀ {i : Nat}, i ∈ ids → (inRen ρ ids).wr (idx ids i) = ρ.wr i ∧ (inRen ρ ids).vers (idx ids i) = ρ.vers i := fun hi =>
    ⟨((inRen_renames ρ ids).at_ _ hi).2.2, ((inRen_renames ρ ids).at_ _ hi).2.1⟩
  have innot : ∀ (b : Nat), (∀ i g, ρ.wr i = some g → g.blk ≠ b) → ∀ j g, (inRen ρ ids).wr j = some g → g.blk ≠ b := by
    intro b hb j g hg
    simp only [inRen] at hg
    split at hg
    · exact hb _ g hg
    · cases hg
  -- a block of an object that the call does not reach
  have far : ∀ {i : Nat} {g : Img}, i < h.length → ¬ ids.contains i = true → ρ.wr i = some g → w'.heap[g.blk]? = w.heap[g.blk]? ∧ (∀ j g', ρ1.wr j = some g' → g'.blk ≠ g.blk) ∧ ρ1.ro g.blk = ρ.ro g.blk := by
    intro i g _ hi hg
    have hlt := hh.blk_lt hg
    obtain ⟨k1, k2, _, k4⟩ := hs.keep g.blk hlt (fun j g' hg' hb => by
      simp only [inRen] at hg'
      split at hg'
      · rename_i hj
        have hj' := List.getElem?_eq_getElem hj
        rw [getD_at hj'] at hg'
        have := hh.inj _ _ g' g hg' hg hb
        exact hi (List.contains_iff_mem.2 (by rw [← this]; exact List.getElem_mem hj))
      · cases hg') (fun _ => by simp [nol])
    exact ⟨k1, k2, k4⟩
  have hle : Le ρ (outRen ρ ρ1 h.length ids nk) := by
    refine ⟨by rw [hh.n]; exact Nat.le_add_right _ _, fun id hid => ?_, fun id hid hv g hg => ?_, fun b o hb => hs.le.ro b o hb⟩
    · rw [hh.n] at hid
      by_cases hi : ids.contains id = true
      · rw [(out_old hid hi).2, ← (inwr (contains_mem hi)).2]
        exact hs.le.vers _ (idx_lt (contains_mem hi))
      · rw [(out_rest hid hi).2]
        exact Nat.le_refl _
    · rw [hh.n] at hid
      by_cases hi : ids.contains id = true
      · obtain ⟨k1, k2⟩ := out_old (ρ := ρ) (ρ1 := ρ1) (nk := nk) hid hi
        rw [k1] at hg
        rw [k2, ← (inwr (contains_mem hi)).2] at hv
        rw [← (inwr (contains_mem hi)).1]
        exact hs.le.wr _ (idx_lt (contains_mem hi)) hv g hg
      · rw [(out_rest hid hi).1] at hg
        exact hg
  refine ⟨⟨?_, ?_, ?_, ?_, h1r.ro, ?_, ?_⟩, ⟨hle, hs.still, hs.size, ?_⟩⟩
  · rw [hb.len]; rfl
  · intro i o ho hlv
    have hi : i < h.length + nk.length := by rw [← hb.len]; exact (List.getElem?_eq_some_iff.1 ho).1
    by_cases hlt : i < h.length
    · by_cases hc : ids.contains i = true
      · obtain ⟨o1, k1, k2⟩ := hb.old i hlt hc
        rw [ho] at k2
        have := Option.some.inj k2
        subst this
        rw [oren_live] at hlv
        obtain ⟨g, hg⟩ := h1r.live _ o1 k1 hlv
        exact ⟨g, by rw [(out_old hlt hc).1]; exact hg⟩
      · rw [hb.rest i hlt hc] at ho
        obtain ⟨g, hg⟩ := hh.live i o ho hlv
        exact ⟨g, by rw [(out_rest hlt hc).1]; exact hg⟩
    · have hm : i - h.length < nk.length := by omega
      have hg0 := List.getElem?_eq_getElem hm
      obtain ⟨o1, k1, k2⟩ := hb.new _ _ hg0
      have ei : h.length + (i - h.length) = i := by omega
      rw [ei, ho] at k2
      have := Option.some.inj k2
      subst this
      rw [oren_live] at hlv
      obtain ⟨g, hg⟩ := h1r.live _ o1 k1 hlv
      have := (out_new (ρ := ρ) (ρ1 := ρ1) (n := h.length) (ids := ids) hg0).1
      rw [ei] at this
      exact ⟨g, by rw [this]; exact hg⟩
  · intro i g hg
    rcases out_wr hg with ⟨hlt, hc, hg'⟩ | ⟨hlt, hc, hg'⟩ | ⟨m, j, rfl, hm, hg'⟩
    · obtain ⟨o, ob, m1, m2, m3, m4⟩ := h1r.obj _ g hg'
      obtain ⟨o1, k1, k2⟩ := hb.old i hlt hc
      rw [m1] at k1; cases k1
      exact ⟨_, ob, k2, m2, oren_rel hren m3 (hb.lead _ o (.inl (idx_lt (contains_mem hc))) m1), by rw [(out_old hlt hc).2, oren_ver]; exact m4⟩
    · obtain ⟨o, ob, m1, m2, m3, m4⟩ := hh.obj i g hg'
      exact ⟨o, ob, by rw [hb.rest i hlt hc]; exact m1, by rw [(far hlt hc hg').1]; exact m2, m3.mono hle, by rw [(out_rest hlt hc).2]; exact m4⟩
    · obtain ⟨o, ob, m1, m2, m3, m4⟩ := h1r.obj _ g hg'
      obtain ⟨o1, k1, k2⟩ := hb.new m j hm
      rw [m1] at k1; cases k1
      exact ⟨_, ob, k2, m2, oren_rel hren m3 (hb.lead _ o (.inr (List.mem_of_getElem? hm)) m1), by rw [(out_new hm).2, oren_ver]; exact m4⟩
  · intro i j g g' hi hj hbk
    have idxinj : ∀ {a b : Nat}, ids.contains a = true → ids.contains b = true → idx ids a = idx ids b → a = b := by
      intro a b ha hb' e
      have h1 := idx_get (contains_mem ha)
      have h2 := idx_get (contains_mem hb')
      rw [e, h2] at h1
      exact (Option.some.inj h1).symm
    have mix : ∀ {a m q : Nat}, ids.contains a = true → nk[m]? = some q → idx ids a ≠ q := by
      intro a m q ha hm e
      have h1 := idx_lt (contains_mem ha)
      have h2 := hk q (List.mem_of_getElem? hm)
      omega
    rcases out_wr hi with ⟨hlt, hc, hg⟩ | ⟨hlt, hc, hg⟩ | ⟨m, q, rfl, hm, hg⟩ <;> rcases out_wr hj with ⟨hlt', hc', hg'⟩ | ⟨hlt', hc', hg'⟩ | ⟨m', q', rfl, hm', hg'⟩
    · exact idxinj hc hc' (h1r.inj _ _ g g' hg hg' hbk)
    · exact absurd hbk ((far hlt' hc' hg').2.1 _ g hg)
    · exact absurd (h1r.inj _ _ g g' hg hg' hbk) (mix hc hm')
    · exact absurd hbk.symm ((far hlt hc hg).2.1 _ g' hg')
    · exact hh.inj i j g g' hg hg' hbk
    · exact absurd hbk.symm ((far hlt hc hg).2.1 _ g' hg')
    · exact absurd (h1r.inj _ _ g g' hg hg' hbk).symm (mix hc' hm)
    · exact absurd hbk ((far hlt' hc' hg').2.1 _ g hg)
    · have := h1r.inj _ _ g g' hg hg' hbk
      subst this
      have em : m = m' := (List.getElem?_inj (List.getElem?_eq_some_iff.1 hm).1 hnk).1 (show nk[m]? = nk[m']? by rw [hm, hm'])
      rw [em]
  · intro i g hg
    rcases out_wr hg with ⟨hlt, hc, hg'⟩ | ⟨hlt, hc, hg'⟩ | ⟨m, j, rfl, hm, hg'⟩
    · exact h1r.sep _ g hg'
    · show ρ1.ro g.blk = none
      rw [(far hlt hc hg').2.2]
      exact hh.sep i g hg'
    · exact h1r.sep _ g hg'
  · intro i ho
    have hi : i < h.length + nk.length := by rw [← hb.len]; exact (List.getElem?_eq_some_iff.1 ho).1
    by_cases hlt : i < h.length
    · by_cases hc : ids.contains i = true
      · obtain ⟨o1, k1, k2⟩ := hb.old i hlt hc
        rw [ho] at k2
        have := oren_rsv (Option.some.inj k2).symm
        subst this
        obtain ⟨m1, m2⟩ := h1r.rsv _ k1
        exact ⟨by rw [(out_old hlt hc).1]; exact m1, by rw [(out_old hlt hc).2]; exact m2⟩
      · rw [hb.rest i hlt hc] at ho
        obtain ⟨m1, m2⟩ := hh.rsv i ho
        exact ⟨by rw [(out_rest hlt hc).1]; exact m1, by rw [(out_rest hlt hc).2]; exact m2⟩
    · have hm : i - h.length < nk.length := by omega
      have hg0 := List.getElem?_eq_getElem hm
      obtain ⟨o1, k1, k2⟩ := hb.new _ _ hg0
      have ei : h.length + (i - h.length) = i := by omega
      rw [ei, ho] at k2
      have := oren_rsv (Option.some.inj k2).symm
      subst this
      obtain ⟨m1, m2⟩ := h1r.rsv _ k1
      have := out_new (ρ := ρ) (ρ1 := ρ1) (n := h.length) (ids := ids) hg0
      rw [ei] at this
      exact ⟨by rw [this.1]; exact m1, by rw [this.2]; exact m2⟩
  · intro b hbl n1 n2
    obtain ⟨k1, k2, k3, k4⟩ := hs.keep b hbl (innot b n1) n2
    refine ⟨k1, fun i g hg => ?_, k3, k4⟩
    rcases out_wr hg with ⟨_, _, hg'⟩ | ⟨_, _, hg'⟩ | ⟨m, j, rfl, hm, hg'⟩
    · exact k2 _ g hg'
    · exact n1 _ g hg'
    · exact k2 _ g hg'

theorem locV_triple {P : Program} {f : FuncId} {F : List V → H → Option (List V × H)} (hF : ∀ vs h s, F vs h = some s → Triple P f vs h (one s.1) s.2) {gro : Bool} {vs : List V} {h : H} {s : List V × H}
    (he : locV gro F vs h = some s) : Triple P f vs h (one s.1) s.2 ∧ (gro = true → Grows h s.2) := by
  unfold locV at he
  obtain ⟨ids, _, he⟩ := Option.bind_eq_some_iff.1 he
  split at he
  case h_1 => cases he
  rename_i hnd
  have hn := nodupB_spec hnd
  split at he
  case h_1 => cases he
  rename_i hargs0
  have hargs0 : ∀ i ∈ V.idss vs, i ∈ ids := fun i hi => contains_mem (within_mem hargs0 i hi)
  split at he
  case h_1 => cases he
  rename_i hlead
  have hlead : ∀ i ∈ ids, ∃ o, h[i]? = some o ∧ ∀ j ∈ o.ids, j ∈ ids := fun i hi => by
    obtain ⟨o, h1, h2⟩ := leadB_mem hlead i hi
    exact ⟨o, h1, fun j hj => contains_mem (h2 j hj)⟩
  have hin : ∀ i ∈ ids, i < h.length := fun i hi => by
    obtain ⟨o, h1, _⟩ := hlead i hi
    exact (List.getElem?_eq_some_iff.1 h1).1
  obtain ⟨h1, hp, he⟩ := Option.bind_eq_some_iff.1 he
  obtain ⟨s1, hs1, he⟩ := Option.bind_eq_some_iff.1 he
  split at he
  case h_1 => cases he
  rename_i hlen
  have hlen := Nat.le_of_ble_eq_true hlen
  obtain ⟨keep, _, he⟩ := Option.bind_eq_some_iff.1 he
  obtain ⟨nk, hnk0, he⟩ := Option.bind_eq_some_iff.1 he
  have hnk0 := Option.some.inj hnk0
  split at he
  case h_1 => cases he
  rename_i hnkd
  have hnk := nodupB_spec hnkd
  have hk : ∀ j ∈ nk, ids.length ≤ j := fun j hj => by
    rw [← hnk0] at hj
    exact Nat.le_of_ble_eq_true (List.mem_filter.1 hj).2
  split at he
  case h_1 => cases he
  rename_i hres
  have sp : ∀ j, (Nat.blt j ids.length || nk.contains j) = true → j < ids.length ∨ j ∈ nk := fun j hj => by
    rcases Bool.or_eq_true_iff.1 hj with h | h
    · left; rw [blt_dec] at h; simpa using h
    · right; exact contains_mem h
  have hres : ∀ i ∈ V.idss s1.1, i < ids.length ∨ i ∈ nk := fun i hi => sp i (within_mem hres i hi)
  split at he
  case h_1 => cases he
  rename_i hlead1
  have hlead1 : ∀ j o, (j < ids.length ∨ j ∈ nk) → s1.2[j]? = some o → ∀ q ∈ o.ids, q < ids.length ∨ q ∈ nk := fun j o hj ho q hq => by
    obtain ⟨o1, k1, k2⟩ := leadB_mem hlead1 j (by
      rcases hj with hj | hj
      · exact List.mem_append_left _ (List.mem_range.2 hj)
      · exact List.mem_append_right _ hj)
    rw [ho] at k1; cases k1
    exact sp q (k2 q hq)
  obtain ⟨p1, p2⟩ := pickO_spec hp
  -- what is known of the memory that comes out
  have main : s.1 = V.rens (backF h.length ids nk) s1.1 ∧ Back h s1.2 ids nk s.2 ∧ (gro = true → Grows h s.2) := by
    split at he
    · split at he
      case h_1 => cases he
      rename_i heq
      obtain ⟨new, hnew, he⟩ := Option.bind_eq_some_iff.1 he
      cases he
      obtain ⟨q1, q2⟩ := pickO_spec hnew
      refine ⟨rfl, ⟨by simp [q1], ?_, ?_, ?_, hlead1⟩, fun _ => ⟨by simp, fun i hi => List.getElem?_append_left hi⟩⟩
      · intro i hi hc
        have hm := contains_mem hc
        obtain ⟨o, k1, k2⟩ := p2 _ _ (idx_get hm)
        refine ⟨_, eqOs_get heq _ _ k2, ?_⟩
        rw [List.getElem?_append_left hi, k1, oren_oren]
        intro q hq
        obtain ⟨o1, m1, m2⟩ := hlead i hm
        rw [k1] at m1; cases m1
        have hqm := m2 q hq
        have hl := idx_lt hqm
        have e : Nat.blt (idx ids q) ids.length = true := by rw [blt_dec]; simpa using hl
        simp only [backF, e]
        exact getD_at (idx_get hqm)
      · intro i hi _
        exact List.getElem?_append_left hi
      · intro m j hm
        obtain ⟨o, k1, k2⟩ := q2 m j hm
        refine ⟨o, k1, ?_⟩
        rw [List.getElem?_append_right (by omega)]
        rw [show h.length + m - h.length = m by omega]
        exact k2
    · obtain ⟨old, hold, he⟩ := Option.bind_eq_some_iff.1 he
      obtain ⟨new, hnew, he⟩ := Option.bind_eq_some_iff.1 he
      cases he
      obtain ⟨q1, q2⟩ := pickO_spec hnew
      obtain ⟨r1, r2⟩ := pickO_spec hold
      have r1 : old.length = ids.length := by rw [r1]; simp
      refine ⟨rfl, ⟨by simp [q1, setAll_len], ?_, ?_, ?_, hlead1⟩, fun h => by cases h⟩
      · intro i hi hc
        have hm := contains_mem hc
        have hl := idx_lt hm
        obtain ⟨o, k1, k2⟩ := r2 (idx ids i) (idx ids i) (by rw [List.getElem?_range hl])
        refine ⟨o, k1, ?_⟩
        rw [List.getElem?_append_left (by rw [setAll_len]; exact hi), setAll_in hn r1.symm hin (idx_get hm)]
        exact k2
      · intro i hi hc
        rw [List.getElem?_append_left (by rw [setAll_len]; exact hi)]
        exact setAll_out fun hm => hc (List.contains_iff_mem.2 hm)
      · intro m j hm
        obtain ⟨o, k1, k2⟩ := q2 m j hm
        refine ⟨o, k1, ?_⟩
        rw [List.getElem?_append_right (by rw [setAll_len]; omega), setAll_len]
        rw [show h.length + m - h.length = m by omega]
        exact k2
  obtain ⟨e1, hb, hg⟩ := main
  refine ⟨?_, hg⟩
  intro ρ w xs hrel hsz hargs
  refine (hF _ _ _ hs1 (inRen ρ ids) w xs (small_rel hrel hn hp hlead) (by rw [rens_len]; exact hsz) fun i a x ha hx => ?_).mono fun e w' he => ?_
  · rw [rens_get] at ha
    obtain ⟨u, hu, rfl⟩ := Option.map_eq_some_iff.1 ha
    exact ren_rel (inRen_renames ρ ids) (hargs i u x hu hx) fun j hj => hargs0 j (idss_mem hu j hj)
  · obtain ⟨ρ1, x, e2, m1, m2, m3⟩ := he
    obtain ⟨k1, k2⟩ := back_rel hrel hn hin hk hnk m1 m2 hb
    refine ⟨_, x, e2, k1, k2, ?_⟩
    rw [e1, one_ren]
    exact ren_rel (back_renames hn hin) m3 fun i hi => hres i (one_ids _ i hi)

def locF (gro : Bool) (ks rs : List SK) (F : Tup ks H → Option (Tup rs H)) (t : Tup ks H) : Option (Tup rs H) :=
  (locV gro (fun vs h => (encVs ks vs (some h)).bind fun t => (F t).bind fun s => some (decVs rs s)) (decVs ks t).1 (decVs ks t).2).bind fun q => encVs rs q.1 (some q.2)

theorem outR_one (rs : List SK) (s : Tup rs H) : outR rs s = (one (decVs rs s).1, (decVs rs s).2) := by
  unfold outR one
  split <;> simp_all

theorem locF_triple {P : Program} {f : FuncId} {ks rs : List SK} {F : Tup ks H → Option (Tup rs H)} (hF : ∀ vs h s, (mkFun ks rs F).F vs h = some s → Triple P f vs h ((mkFun ks rs F).out s).1 ((mkFun ks rs F).out s).2) {gro : Bool} {vs : List V} {h : H} {s : Tup rs H}
    (he : (mkFun ks rs (locF gro ks rs F)).F vs h = some s) : Triple P f vs h ((mkFun ks rs (locF gro ks rs F)).out s).1 ((mkFun ks rs (locF gro ks rs F)).out s).2 ∧ (gro = true → Grows h ((mkFun ks rs (locF gro ks rs F)).out s).2) := by
  obtain ⟨t, ht, he⟩ := Option.bind_eq_some_iff.1 he
  obtain ⟨y, hy, hd⟩ := encVs_law ks vs _ t ht
  cases hy
  obtain ⟨q, hq, he⟩ := Option.bind_eq_some_iff.1 he
  obtain ⟨y, hy, hd2⟩ := encVs_law rs q.1 _ s he
  cases hy
  rw [hd] at hq
  have := locV_triple (P := P) (f := f) (fun vs h s hs => by
    obtain ⟨t, ht, hs⟩ := Option.bind_eq_some_iff.1 hs
    obtain ⟨z, hz, hs⟩ := Option.bind_eq_some_iff.1 hs
    cases hs
    have := hF vs h z (by show (encVs ks vs (some h)).bind F = _; rw [ht]; exact hz)
    have e : (mkFun ks rs F).out z = outR rs z := rfl
    rw [e, outR_one] at this
    exact this) hq
  have e : (mkFun ks rs (locF gro ks rs F)).out s = outR rs s := rfl
  rw [e, outR_one, hd2]
  exact this

theorem loc_full {P : Program} {f : FuncId} {ks rs : List SK} {F : Tup ks H → Option (Tup rs H)} (hF : CalOk P f (.full (mkFun ks rs F))) : CalOk P f (.full (mkFun ks rs (locF false ks rs F))) := fun vs h s he => by
  refine ⟨?_, (locF_triple (fun vs h s hs => (hF vs h s hs).2) he).1⟩
  obtain ⟨t, ht, he⟩ := Option.bind_eq_some_iff.1 he
  obtain ⟨q, hq, he⟩ := Option.bind_eq_some_iff.1 he
  unfold locV at hq
  obtain ⟨ids, _, hq⟩ := Option.bind_eq_some_iff.1 hq
  split at hq
  case h_1 => cases hq
  split at hq
  case h_1 => cases hq
  split at hq
  case h_1 => cases hq
  obtain ⟨h1, hp, hq⟩ := Option.bind_eq_some_iff.1 hq
  obtain ⟨s1, hs1, hq⟩ := Option.bind_eq_some_iff.1 hq
  obtain ⟨t', ht', hs1⟩ := Option.bind_eq_some_iff.1 hs1
  obtain ⟨z, hz, _⟩ := Option.bind_eq_some_iff.1 hs1
  exact (hF _ h1 z (by show (encVs ks _ (some h1)).bind F = _; rw [ht']; exact hz)).1

theorem loc_gro {P : Program} {f : FuncId} {ks rs : List SK} {F : Tup ks H → Option (Tup rs H)} (hF : CalOk P f (.full (mkFun ks rs F))) : CalOk P f (.gro (mkFun ks rs (locF true ks rs F))) := fun vs h s he => by
  obtain ⟨k1, k2⟩ := locF_triple (fun vs h s hs => (hF vs h s hs).2) he
  refine ⟨⟨?_, k1⟩, k2 rfl⟩
  obtain ⟨t, ht, he⟩ := Option.bind_eq_some_iff.1 he
  obtain ⟨q, hq, he⟩ := Option.bind_eq_some_iff.1 he
  unfold locV at hq
  obtain ⟨ids, _, hq⟩ := Option.bind_eq_some_iff.1 hq
  split at hq
  case h_1 => cases hq
  split at hq
  case h_1 => cases hq
  split at hq
  case h_1 => cases hq
  obtain ⟨h1, hp, hq⟩ := Option.bind_eq_some_iff.1 hq
  obtain ⟨s1, hs1, hq⟩ := Option.bind_eq_some_iff.1 hq
  obtain ⟨t', ht', hs1⟩ := Option.bind_eq_some_iff.1 hs1
  obtain ⟨z, hz, _⟩ := Option.bind_eq_some_iff.1 hs1
  exact (hF _ h1 z (by show (encVs ks _ (some h1)).bind F = _; rw [ht']; exact hz)).1

def scalF (ks rs : List SK) (F : Tup ks H → Option (Tup rs H)) (t : Tup ks H) : Option (Tup rs H) :=
  match V.scals (decVs ks t).1 with
  | true => (F t).bind fun s => match (outR rs s).1.scal with
    | true => some s
    | false => none
  | false => none

theorem scal_pure {E : Env} {N : Nat} {f : FuncId} {fn : Func} {ks rs : List SK} {F : Tup ks H → Option (Tup rs H)} (hF : Fine E N f fn ks rs F) (hE : Good E) : CalOk E.P f (.pure (mkP ks rs (scalF ks rs F))) := fun vs s he => by
  obtain ⟨t, ht, he⟩ := Option.bind_eq_some_iff.1 he
  obtain ⟨y, hy, hd⟩ := encVs_law ks vs _ t ht
  cases hy
  unfold scalF at he
  split at he
  case h_2 => cases he
  rename_i hsc
  obtain ⟨s', hs, he⟩ := Option.bind_eq_some_iff.1 he
  split at he
  case h_2 => cases he
  rename_i hsr
  cases he
  have := hF.triple hE hs
  rw [hd] at this hsc
  exact ⟨hF.callable, Triple.closed this hsc hsr⟩

end
end Go.L

namespace Go.L
noncomputable section

theorem Grows.refl (h : H) : Grows h h := ⟨Nat.le_refl _, fun _ _ => rfl⟩
theorem Grows.trans {a b c : H} (h : Grows a b) (h' : Grows b c) : Grows a c :=
  ⟨Nat.le_trans h.1 h'.1, fun i hi => (h'.2 i (Nat.lt_of_lt_of_le hi h.1)).trans (h.2 i hi)⟩
theorem Grows.push (h : H) (l : List O) : Grows h (h ++ l) := ⟨by simp, fun _ hi => List.getElem?_append_left hi⟩

def nilArg (x : Operand) : Bool :=
  match x with
  | .const v => match cstA v with
    | some .nils => true
    | _ => false
  | _ => false

def groO (E : Env) (o : Oper) : Bool :=
  match o.op with
  | .alloc _ | .box _ _ | .buildSlice _ _ _ | .makeMap _ none | .range _ _ => true
  | .makeSlice _ _ _ => match rsOf E o with
    | none => !fzOf E o
    | some _ => false
  | .call c => quietO E o || match c.callee with
    | .value (.func f) => match E.cal f with
      | some (.gro _) => !fzOf E o
      | _ => false
    | .builtin .append => match c.args.toList with
      | [x, _] => nilArg x && !fzOf E o
      | _ => false
    | _ => false
  | _ => quietO E o

def groC (E : Env) : Code → Bool
  | .region id ops _ => E.dd id || ops.toList.all (groO E)
  | .seq a b => groC E a && groC E b
  | .cond _ a b => groC E a && groC E b
  | .block _ c => groC E c
  | .loop c => groC E c
  | .scope _ => false
  | _ => true

theorem quiet_gro {E : Env} {o : Oper} {st st' : St} (hq : quietO E o = true) (he : evOp E o st some = some st') (hlp : LpOk E st) : Grows st.h st'.h := by
  obtain ⟨x, l, h, hf, hs⟩ := evOp_shape hlp he
  obtain ⟨e1, _⟩ := fin_out hf
  cases e1
  obtain ⟨x2, l2, h2, _, hm, _⟩ := hs st ((St.le_refl st).alikeG (ops := #[]) o).alike
  rw [out_h]
  rcases hm.h1 with e | ⟨e, _⟩
  · simp [quietO, e] at hq
  · rw [e]; exact Grows.refl _

theorem evOp_gro {E : Env} (hE : Good E) {o : Oper} {st st' : St} (hq : groO E o = true) (he : evOp E o st some = some st') (hlp : LpOk E st) : Grows st.h st'.h := by
  have fin_h : ∀ {x : S} {l : List (Nat × List V)} {h : H}, fin E o st some x l h = some st' → st'.h = h := by
    intro x l h hf
    obtain ⟨e1, _⟩ := fin_out hf
    cases e1
    exact out_h
  cases ho : o.op with
  | alloc t =>
    unfold evOp at he
    simp only [ho] at he
    obtain ⟨cs, _, he⟩ := Option.bind_eq_some_iff.1 he
    split at he
    · split at he
      · rw [fin_h he]; exact Grows.refl _
      · cases he
    · rw [fin_h he]; exact Grows.push _ _
  | box t x =>
    unfold evOp at he
    simp only [ho] at he
    split at he
    case h_2 => cases he
    obtain ⟨cs, he, _⟩ := cellsAs_thru _ _ _ _ _ he
    split at he
    · split at he
      · rw [fin_h he]; exact Grows.refl _
      · cases he
    · rw [fin_h he]; exact Grows.push _ _
  | buildSlice t len ps =>
    unfold evOp at he
    simp only [ho] at he
    obtain ⟨e, h1, he⟩ := Option.bind_eq_some_iff.1 he
    obtain ⟨z, h2, he⟩ := Option.bind_eq_some_iff.1 he
    split at he
    case isFalse => cases he
    split at he
    case isTrue => cases he
    split at he
    case isFalse => cases he
    obtain ⟨v, he, _⟩ := buildS_thru E (fun i => some (i * E.P.cellsOf e, e)) st ps.toList _ _ _ _ he
    split at he
    · rw [fin_h he]; exact Grows.refl _
    · rw [fin_h he]; exact Grows.push _ _
  | makeMap t x =>
    cases x with
    | none =>
      unfold evOp at he
      simp only [ho] at he
      rw [fin_h he]; exact Grows.push _ _
    | some x => unfold evOp at he; simp only [ho] at he; cases he
  | range t x =>
    unfold evOp at he
    simp only [ho] at he
    split at he
    case h_2 => cases he
    obtain ⟨ob, _, he⟩ := Option.bind_eq_some_iff.1 he
    rw [fin_h he]; exact Grows.push _ _
  | makeSlice t x y =>
    unfold groO at hq
    simp only [ho] at hq
    split at hq
    case h_2 => cases hq
    rename_i hrs
    have hfz : fzOf E o = false := by simpa using hq
    unfold evOp at he
    simp only [ho] at he
    split at he
    case h_2 => cases he
    obtain ⟨z, _, he⟩ := Option.bind_eq_some_iff.1 he
    split at he
    case isTrue => cases he
    split at he
    case isFalse => cases he
    split at he
    case isFalse => cases he
    split at he
    case isFalse => cases he
    split at he
    case isFalse => cases he
    split at he
    case isFalse => cases he
    simp only [hfz, hrs] at he
    rw [fin_h he]; exact Grows.push _ _
  | call c =>
    unfold groO at hq
    simp only [ho, Bool.or_eq_true] at hq
    rcases hq with hq | hq
    · exact quiet_gro hq he hlp
    · split at hq
      · rename_i f hc
        split at hq
        case h_2 => cases hq
        rename_i F hF
        have hfz : fzOf E o = false := by simpa using hq
        unfold evOp at he
        simp only [ho, hc] at he
        obtain ⟨vs, he, _, _⟩ := argsK_thru _ _ _ _ _ he
        unfold callK at he
        simp only [hF, hfz] at he
        obtain ⟨q, h1, he⟩ := Option.bind_eq_some_iff.1 he
        obtain ⟨u, he, _⟩ := tyDest_thru _ _ _ _ _ he
        rw [fin_h he]
        exact (hE.cal f _ hF vs st.h q h1).2
      · rename_i hc
        split at hq
        case h_2 => cases hq
        rename_i x y hargs
        simp only [Bool.and_eq_true] at hq
        have hfz : fzOf E o = false := by simpa using hq.2
        have hx : st.opnd x = .v .nils := by
          have := hq.1
          unfold nilArg at this
          split at this
          · rename_i v
            split at this
            · rename_i hv
              simp only [St.opnd, hv]
            · cases this
          · cases this
        unfold evOp at he
        simp only [ho, hc, hargs, argsK, hx] at he
        have key : ∀ v, evBuiltin E o .append c.argTypes [.nils, v] st some = some st' → Grows st.h st'.h := by
          intro v he
          simp only [evBuiltin] at he
          split at he
          case h_3 => cases he
          case h_2 =>
            split at he
            case h_2 => cases he
            split at he
            case isFalse => cases he
            split at he
            case isFalse => cases he
            split at he
            case isFalse => cases he
            obtain ⟨q, hq, he⟩ := Option.bind_eq_some_iff.1 he
            unfold finF at he
            rw [hfz] at he
            rw [fin_h he]
            unfold happ at hq
            split at hq
            · simp only [isSl, if_true] at hq
              cases hq
              exact Grows.refl _
            · split at hq
              · simp only at hq
                split at hq
                · cases hq; exact Grows.push _ _
                · cases hq
              · cases hq
          split at he
          case isFalse => cases he
          split at he
          case isTrue => cases he
          split at he
          case isFalse => cases he
          split at he
          case isFalse => cases he
          obtain ⟨cs, _, he⟩ := Option.bind_eq_some_iff.1 he
          obtain ⟨q, hq, he⟩ := Option.bind_eq_some_iff.1 he
          unfold finF at he
          rw [hfz] at he
          rw [fin_h he]
          unfold happ at hq
          split at hq
          · simp only [isSl, if_true] at hq
            cases hq
            exact Grows.refl _
          · split at hq
            · simp only at hq
              split at hq
              · cases hq; exact Grows.push _ _
              · cases hq
            · cases hq
        split at he
        · exact key _ he
        · exact key _ he
        · cases he
      · cases hq
  | _ =>
    unfold groO at hq
    simp only [ho] at hq
    exact quiet_gro hq he hlp

theorem stp_gro {E : Env} (hE : Good E) {ops : Array Oper} {o : Oper} {st st' : St} (hq : groO E o = true) (he : stp E ops o st = some st') (hlp : LpOk E st) : Grows st.h st'.h := by
  unfold stp at he
  split at he
  · exact evOp_gro hE hq he hlp
  · obtain ⟨e1, _⟩ := fin_out he
    cases e1
    rw [out_h]; exact Grows.refl _
  · cases he

theorem flat_gro {E : Env} (hE : Good E) {ops : Array Oper} : ∀ (l : List Oper) {st st' : St}, flat E ops l st = some st' → LpOk E st → l.all (groO E) = true → Grows st.h st'.h
  | [], st, st', h, _, _ => by cases h; exact Grows.refl _
  | o :: l, st, st', h, hlp, hq => by
    simp only [flat] at h
    simp only [List.all_cons, Bool.and_eq_true] at hq
    obtain ⟨st1, h1, h2⟩ := Option.bind_eq_some_iff.1 h
    have g1 := stp_gro hE hq.1 h1 hlp
    obtain ⟨x, lx, hx, rfl, hs⟩ := stp_shape hlp h1
    exact g1.trans (flat_gro hE l h2 (hlp.out _ _ _) hq.2)

theorem ev_groC {E : Env} (hE : Good E) : ∀ (c : Code) (N : Nat), LGood E N c → groC E c = true → ∀ {R : Type} {st : St} {K : X → St → Option R} {r : R}, ev E N c st K = some r → LpOk E st →
    ∃ x st', K x st' = some r ∧ Grows st.h st'.h ∧ LpOk E st'
  | .skip, N, hL, hq, R, st, K, r, he, hlp => ⟨.normal, st, he, Grows.refl _, hlp⟩
  | .region id ops draw, N, hL, hq, R, st, K, r, he, hlp => by
    simp only [ev] at he
    split at he
    case h_1 => cases he
    rename_i hdd
    have hq : ops.toList.all (groO E) = true := by simpa [groC, hdd] using hq
    split at he
    case h_2 => cases he
    rename_i l ds hc
    replace he : (evOps E ops (ops.size + ops.size) [] l (keepSt E ops st) fun st => sepK st.s ds (K .normal st)) = some r := by
      exact he
    obtain ⟨st', sf, k1, k2, k3, k4⟩ := evOps_flat _ _ _ he (by
      unfold keepSt
      split
      · exact hlp
      · exact hlp)
    rw [sepK_eq] at k2
    obtain ⟨_, _, k2⟩ := Option.bind_eq_some_iff.1 k2
    have h1 := flat_gro hE _ k1 (by
      unfold keepSt
      split
      · exact hlp
      · exact hlp) (List.all_eq_true.2 fun o ho => List.all_eq_true.1 hq o (planR_mem hc ho))
    have h0 : Grows st.h (keepSt E ops st).h := by
      unfold keepSt
      split
      · exact Grows.refl _
      · exact ⟨by simp, fun i hi => List.getElem?_append_left hi⟩
    exact ⟨.normal, st', k2, by rw [← k3.h]; exact h0.trans h1, k4⟩
  | .seq a b, N, hL, hq, R, st, K, r, he, hlp => by
    simp only [groC, Bool.and_eq_true] at hq
    simp only [ev] at he
    obtain ⟨x, st', h1, h2, h3⟩ := ev_groC hE a N hL.1 hq.1 he hlp
    cases x with
    | normal =>
      obtain ⟨y, st'', g1, g2, g3⟩ := ev_groC hE b N hL.2 hq.2 h1 h3
      exact ⟨y, st'', g1, h2.trans g2, g3⟩
    | exit i => exact ⟨_, st', h1, h2, h3⟩
    | ret => exact ⟨_, st', h1, h2, h3⟩
    | goto i => exact ⟨_, st', h1, h2, h3⟩
  | .cond c a b, N, hL, hq, R, st, K, r, he, hlp => by
    simp only [groC, Bool.and_eq_true] at hq
    simp only [ev] at he
    split at he
    · rename_i t ht
      split at he
      · cases t
        · exact ev_groC hE b N hL.2 hq.2 (by simpa using he) hlp
        · exact ev_groC hE a N hL.1 hq.1 (by simpa using he) hlp
      · rename_i as _
        obtain ⟨s, hs, he⟩ := Option.bind_eq_some_iff.1 he
        have go : (∃ x st', encA as x st' = some s ∧ Grows st.h st'.h ∧ LpOk E st') → ∃ x st', K x st' = some r ∧ Grows st.h st'.h ∧ LpOk E st' := by
          rintro ⟨x, st', h1, h2, h3⟩
          obtain ⟨al, hd⟩ := encA_law as x st' s h1
          rw [hd R K] at he
          exact ⟨x, _, he, h2, h3.norm _⟩
        cases t
        · exact go (ev_groC hE b N hL.2 hq.2 (by simpa using hs) hlp)
        · exact go (ev_groC hE a N hL.1 hq.1 (by simpa using hs) hlp)
    · cases he
  | .block id c, N, hL, hq, R, st, K, r, he, hlp => by
    simp only [ev] at he
    obtain ⟨x, st', h1, h2, h3⟩ := ev_groC hE c N hL hq he hlp
    cases x with
    | normal => exact ⟨_, st', h1, h2, h3⟩
    | ret => exact ⟨_, st', h1, h2, h3⟩
    | goto i => exact ⟨_, st', h1, h2, h3⟩
    | exit i =>
      simp only at h1
      split at h1
      · exact ⟨_, st', h1, h2, h3⟩
      · exact ⟨_, st', h1, h2, h3⟩
  | .loop c, N, hL, hq, R, st, K, r, he, hlp => by
    simp only [ev] at he
    split at he
    case h_2 => cases he
    rename_i A hA
    have hok := hL.2 A hA
    obtain ⟨s, hs, he⟩ := Option.bind_eq_some_iff.1 he
    obtain ⟨o, ho, he⟩ := Option.bind_eq_some_iff.1 he
    have key : ∀ (n : Nat) {s : A.head.T}, A.L n s = some o → LpOk E (A.head.dec s) → Grows st.h (A.head.dec s).h → ∃ x st', K x st' = some r ∧ Grows st.h st'.h ∧ LpOk E st' := by
      intro n
      induction n with
      | zero => intro s he _ _; rw [hok.zero] at he; cases he
      | succ n ih =>
        intro s he' hlp hh
        rw [hok.succ] at he'
        obtain ⟨x, st', h1, h2, h3⟩ := ev_groC hE c N hL.1 hq he' hlp
        have out : encA A.outs x st' = some o → ∃ x st', K x st' = some r ∧ Grows st.h st'.h ∧ LpOk E st' := by
          intro hk
          obtain ⟨al, hd⟩ := encA_law A.outs x st' o hk
          rw [hd R K] at he
          exact ⟨x, _, he, hh.trans h2, h3.norm _⟩
        cases x with
        | normal =>
          obtain ⟨s', hs1, hs2⟩ := Option.bind_eq_some_iff.1 h1
          have hd := alt_law A.head st' s' hs1
          exact ih hs2 (by rw [hd]; exact h3.norm _) (by rw [hd]; exact hh.trans h2)
        | exit i => exact out h1
        | ret => exact out h1
        | goto i => exact out h1
    have hd := alt_law A.head st s hs
    exact key N ho (by rw [hd]; exact hlp.norm _) (by rw [hd]; exact Grows.refl _)
  | .exit id, N, hL, hq, R, st, K, r, he, hlp => ⟨.exit id, st, he, Grows.refl _, hlp⟩
  | .ret, N, hL, hq, R, st, K, r, he, hlp => ⟨.ret, st, he, Grows.refl _, hlp⟩
  | .goto l, N, hL, hq, R, st, K, r, he, hlp => ⟨.goto l, st, he, Grows.refl _, hlp⟩
  | .label _, N, hL, hq, R, st, K, r, he, hlp => ⟨.normal, st, he, Grows.refl _, hlp⟩
  | .scope .., N, hL, hq, R, st, K, r, he, hlp => by simp [groC] at hq
  | .rangeFunc .., N, hL, hq, R, st, K, r, he, hlp => by simp [ev] at he
  | .refuse _, N, hL, hq, R, st, K, r, he, hlp => by simp [ev] at he

theorem mkFun_groC {E : Env} {N : Nat} {f : FuncId} {fn : Func} {ks rs : List SK} {F : Tup ks H → Option (Tup rs H)} (hF : Fine E N f fn ks rs F) (hE : Good E) (hq : (fn.body.map (groC E)).getD false = true) (vs : List V) (h : H) (s : Tup rs H) (he : (mkFun ks rs F).F vs h = some s) :
    (Callable E.P f ∧ Triple E.P f vs h ((mkFun ks rs F).out s).1 ((mkFun ks rs F).out s).2) ∧ Grows h ((mkFun ks rs F).out s).2 := by
  refine ⟨mkFun_good hF hE vs h s he, ?_⟩
  have : Grows h ((mkFun ks rs F).out s).2 := by
    obtain ⟨t, ht, he⟩ := Option.bind_eq_some_iff.1 he
    obtain ⟨y, hy, hd⟩ := encVs_law ks vs _ t ht
    cases hy
    rw [hF.link] at he
    unfold evFT at he
    cases hb : fn.body with
    | none => rw [hb] at he; cases he
    | some c =>
      rw [hb] at he hq
      have hlp : LpOk E ⟨argSlots 0 (decVs ks t).1, [], (decVs ks t).2⟩ := fun i => by
        show lpOk E i (lk (argSlots 0 (decVs ks t).1) i) = true
        rw [lk_argSlots]
        simp only [Nat.zero_le, if_true, Nat.sub_zero]
        split
        · rename_i u hu
          have hi : i < (decVs ks t).1.length := by
            rcases Nat.lt_or_ge i (decVs ks t).1.length with h | h
            · exact h
            · rw [List.getElem?_eq_none h] at hu; cases hu
          have hlp' : E.lpT i = none := by
            have := hF.lp
            rw [List.all_eq_true] at this
            rw [decVs_length] at hi
            simpa using this i (by simpa using hi)
          simp only [lpOk, hlp']
        · rfl
      obtain ⟨x, st', k1, k2, _⟩ := ev_groC hE c N (hF.loops c hb) (by simpa using hq) he hlp
      have fine : (resVs E st' fn.results.toList fun vs => encVs rs vs (some st'.h)) = some s → Grows h (outR rs s).2 := by
        intro hk
        obtain ⟨vs, hk1, hk2⟩ := resVs_thru E st' _ _ _ _ hk
        obtain ⟨y0, hy0, hd0⟩ := encVs_law rs vs _ s hk1
        cases hy0
        unfold outR
        rw [hd0]
        show Grows h st'.h
        have e : (decVs ks t).2 = h := by rw [hd]
        rw [← e]
        exact k2
      cases x with
      | normal => exact fine k1
      | ret => exact fine k1
      | exit i => cases k1
      | goto i => cases k1
  exact this

end
end Go.L

namespace Go.L
noncomputable section

def shareL {rs : List SK} : List (Tup rs H) → Option (List V × H)
  | [] => none
  | [s] => some (decVs rs s)
  | s :: r => (shareL r).bind fun q => match V.beqs (decVs rs s).1 q.1 with
    | true => (mergeH (decVs rs s).2 q.2).bind fun h => some (q.1, h)
    | false => none

def shareOk {rs : List SK} (q : List V × H) : List (Tup rs H) → Bool
  | [] => true
  | s :: r => match V.beqs (decVs rs s).1 q.1 && Less (decVs rs s).2 q.2 with
    | true => shareOk q r
    | false => false

theorem shareOk_mem {rs : List SK} {q : List V × H} : ∀ {l : List (Tup rs H)}, shareOk q l = true → ∀ s ∈ l, V.beqs (decVs rs s).1 q.1 = true ∧ Less (decVs rs s).2 q.2 = true
  | [], _, s, hs => by cases hs
  | x :: l, h, s, hs => by
    unfold shareOk at h
    split at h
    · rename_i hx
      simp only [Bool.and_eq_true] at hx
      rcases List.mem_cons.1 hs with rfl | hs
      · exact hx
      · exact shareOk_mem h s hs
    · cases h

def allF (E : Env) (N : Nat) (fn : Func) (ks rs : List SK) (t : Tup ks H) : Option (Tup rs H) :=
  (evLT E N fn ks rs t).bind fun l => (shareL l).bind fun q => match shareOk q l with
    | true => encVs rs q.1 (some q.2)
    | false => none

theorem allF_good {E : Env} {N : Nat} {f : FuncId} {fn : Func} {ks rs : List SK} (hF : FineL E N f fn ks) (hE : Good E) : CalOk E.P f (.full (mkFun ks rs (allF E N fn ks rs))) := fun vs h s he => by
  refine ⟨⟨fn, hF.func, hF.name, hF.body⟩, ?_⟩
  obtain ⟨t, ht, he⟩ := Option.bind_eq_some_iff.1 he
  obtain ⟨l, hl, he⟩ := Option.bind_eq_some_iff.1 he
  obtain ⟨q, hq, he⟩ := Option.bind_eq_some_iff.1 he
  split at he
  case h_2 => cases he
  rename_i hall
  obtain ⟨y, hy, hd⟩ := encVs_law ks vs _ t ht
  cases hy
  obtain ⟨y, hy, hd2⟩ := encVs_law rs q.1 _ s he
  cases hy
  have hc := evLT_calls hE hF.func hF.ntmps hF.loops (ks := ks) (rs := rs) (t := t) (by rw [decVs_length]; exact Nat.le_of_ble_eq_true hF.args) (fun i hi => by
    have := hF.lp
    rw [List.all_eq_true] at this
    rw [decVs_length] at hi
    simpa using this i (by simpa using hi)) hl
  rw [hd] at hc
  have eo : (mkFun ks rs (allF E N fn ks rs)).out s = (one q.1, q.2) := by
    show outR rs (s : Tup rs H) = _
    exact (outR_one rs s).trans (by rw [hd2])
  rw [eo]
  intro ρ w xs hrel hsz hargs
  refine (hc ρ w xs hrel hsz hargs).mono fun e w' he => ?_
  obtain ⟨s, hs, ρ', x, e1, e2, e3, e4⟩ := he
  rw [outR_one] at e2 e4
  obtain ⟨k1, k2⟩ := shareOk_mem hall s hs
  obtain ⟨k3, k4⟩ := less_spec k2
  obtain ⟨ρ2, m1, m2, m3, m4⟩ := relH_less e2 k3 k4
  refine ⟨ρ2, x, e1, m1, ⟨e3.le.trans m2, e3.still, e3.size, fun b hb n1 n2 => ?_⟩, ?_⟩
  · obtain ⟨p1, p2, p3, p4⟩ := e3.keep b hb n1 n2
    exact ⟨p1, fun i g hg => p2 i g (m3 i g hg), p3, by rw [m4]; exact p4⟩
  · rw [← V.beqs_eq _ _ k1]
    exact e4.mono m2

end
end Go.L

namespace Go.L
noncomputable section

abbrev Row := List V × H × List V × H

def eqH : H → H → Bool
  | [], [] => true
  | a :: r, b :: s => match O.beq a b with
    | true => eqH r s
    | false => false
  | _, _ => false

theorem eqH_eq : ∀ {a b : H}, eqH a b = true → a = b
  | [], [], _ => rfl
  | [], _ :: _, h => by simp [eqH] at h
  | _ :: _, [], h => by simp [eqH] at h
  | x :: a, y :: b, h => by
    unfold eqH at h
    split at h
    · rename_i hb
      rw [O.beq_eq hb, eqH_eq h]
    · cases h

def tabV : List Row → List V → H → Option (List V × H)
  | [], _, _ => none
  | e :: r, vs, h => match V.beqs vs e.1 with
    | true => match eqH h e.2.1 with
      | true => some e.2.2
      | false => tabV r vs h
    | false => tabV r vs h

theorem tabV_mem : ∀ {l : List Row} {vs : List V} {h : H} {q : List V × H}, tabV l vs h = some q → (vs, h, q.1, q.2) ∈ l
  | [], vs, h, q, e => by cases e
  | x :: l, vs, h, q, e => by
    unfold tabV at e
    split at e
    · rename_i h1
      split at e
      · rename_i h2
        have e := Option.some.inj e
        rw [V.beqs_eq _ _ h1, eqH_eq h2, ← e]
        exact List.mem_cons_self ..
      · exact List.mem_cons_of_mem _ (tabV_mem e)
    · exact List.mem_cons_of_mem _ (tabV_mem e)

def tabC (rs : List SK) (l : List Row) (vs : List V) (h : H) : Option (Tup rs H) :=
  (tabV l vs h).bind fun q => encVs rs q.1 (some q.2)

def tabF (rs : List SK) (l : List Row) : Fun := ⟨Tup rs H, tabC rs l, outR rs⟩

def RowOk (ks rs : List SK) (F : Tup ks H → Option (Tup rs H)) (e : Row) : Prop :=
  ((encVs ks e.1 (some e.2.1)).bind F).map (decVs rs) = some (e.2.2.1, e.2.2.2)

def AllRows (ks rs : List SK) (F : Tup ks H → Option (Tup rs H)) : List Row → Prop
  | [] => True
  | e :: r => RowOk ks rs F e ∧ AllRows ks rs F r

theorem allRows_mem {ks rs : List SK} {F : Tup ks H → Option (Tup rs H)} : ∀ {l : List Row}, AllRows ks rs F l → ∀ e ∈ l, RowOk ks rs F e
  | [], _, e, he => by cases he
  | x :: l, h, e, he => by
    rcases List.mem_cons.1 he with rfl | he
    · exact h.1
    · exact allRows_mem h.2 e he

theorem tab_good {P : Program} {f : FuncId} {ks rs : List SK} {F : Tup ks H → Option (Tup rs H)} (hF : CalOk P f (.full (mkFun ks rs F))) {l : List Row} (hl : AllRows ks rs F l) : CalOk P f (.full (tabF rs l)) := fun vs h s he => by
  obtain ⟨q, hq, he⟩ := Option.bind_eq_some_iff.1 he
  have hr := allRows_mem hl _ (tabV_mem hq)
  unfold RowOk at hr
  obtain ⟨s', hs', hd⟩ := Option.map_eq_some_iff.1 hr
  obtain ⟨y, hy, hd2⟩ := encVs_law rs q.1 _ s he
  cases hy
  obtain ⟨h1, h2⟩ := hF vs h s' hs'
  refine ⟨h1, ?_⟩
  have e1 : (tabF rs l).out s = (one q.1, q.2) := by
    show outR rs (s : Tup rs H) = _
    exact (outR_one rs s).trans (by rw [hd2])
  have e2 : (mkFun ks rs F).out s' = (one q.1, q.2) := by
    show outR rs (s' : Tup rs H) = _
    exact (outR_one rs s').trans (by rw [hd])
  rw [e1]
  rw [e2] at h2
  exact h2

def tabG (ks rs : List SK) (l : List Row) (t : Tup ks H) : Option (Tup rs H) := tabC rs l (decVs ks t).1 (decVs ks t).2

theorem tab_goodG {P : Program} {f : FuncId} {ks rs : List SK} {F : Tup ks H → Option (Tup rs H)} (hF : CalOk P f (.full (mkFun ks rs F))) {l : List Row} (hl : AllRows ks rs F l) : CalOk P f (.full (mkFun ks rs (locF false ks rs (tabG ks rs l)))) :=
  loc_full fun vs h s he => by
    obtain ⟨t, ht, he⟩ := Option.bind_eq_some_iff.1 he
    obtain ⟨y, hy, hd⟩ := encVs_law ks vs _ t ht
    cases hy
    refine tab_good hF hl vs h s ?_
    unfold tabG at he
    rw [hd] at he
    exact he

end
end Go.L

namespace Go.L
noncomputable section

def fastV (T : List (List Nat)) : Nat → List Nat → Nat → List Nat → Option (List Nat)
  | 0, [], _, acc => some acc.reverse
  | 0, _ :: _, _, _ => none
  | _ + 1, [], _, acc => some acc.reverse
  | n + 1, f :: todo, m, acc => match Nat.testBit m f with
    | true => fastV T n todo m acc
    | false => fastV T n ((T[f]?).getD [] ++ todo) (m ||| 2 ^ f) (f :: acc)

theorem fastV_law {P : Program} {T : List (List Nat)} (hT : ∀ f : Nat, (P.funcs[f]?).elim [] P.leadsTo = (T[f]?).getD []) : ∀ (n : Nat) (todo : List Nat) (m : Nat) (acc l : List Nat), (∀ f, Nat.testBit m f = acc.contains f) → fastV T n todo m acc = some l → ∀ k, n ≤ k → P.closureVia k todo acc = l
  | 0, [], m, acc, l, _, h, k, _ => by
    cases h
    cases k <;> rfl
  | 0, _ :: _, _, _, _, _, h, _, _ => by cases h
  | n + 1, [], m, acc, l, _, h, k, _ => by
    cases h
    cases k <;> rfl
  | n + 1, f :: todo, m, acc, l, hm, h, k, hk => by
    obtain ⟨k, rfl⟩ : ∃ j, k = j + 1 := ⟨k - 1, by omega⟩
    rw [Program.closureVia, ← hm f]
    unfold fastV at h
    split at h
    · rename_i hb
      rw [if_pos hb]
      exact fastV_law hT n todo m acc l hm h k (by omega)
    · rename_i hb
      rw [if_neg (by rw [hb]; simp), hT f]
      refine fastV_law hT n _ _ _ l (fun g => ?_) h k (by omega)
      rw [Nat.testBit_or, hm g, Nat.testBit_two_pow, List.contains_cons]
      by_cases hg : g = f
      · subst hg; simp
      · have : ¬ f = g := fun e => hg e.symm
        simp [hg, this]

def eqAt (P : Program) (T : List (List Nat)) (a n : Nat) : Bool :=
  (List.range' a n).all fun i => eqNats ((P.funcs[i]?).elim [] P.leadsTo) ((T[i]?).getD [])

theorem eqAt_spec {P : Program} {T : List (List Nat)} {a n : Nat} (h : eqAt P T a n = true) (i : Nat) (h1 : a ≤ i) (h2 : i < a + n) : (P.funcs[i]?).elim [] P.leadsTo = (T[i]?).getD [] :=
  eqNats_eq (List.all_eq_true.1 h i (List.mem_range'_1.2 ⟨h1, h2⟩))

theorem closure_of {P : Program} {T : List (List Nat)} {f n : Nat} {l : List Nat} (hs : P.funcs.size = T.length) (hT : ∀ i : Nat, i < T.length → (P.funcs[i]?).elim [] P.leadsTo = (T[i]?).getD [])
    (h : fastV T n [f] 0 [] = some l) (hn : n ≤ 1 + (T.map fun e => e.length + 1).sum) : P.closure f = l := by
  have hA : ∀ i : Nat, (P.funcs[i]?).elim [] P.leadsTo = (T[i]?).getD [] := fun i => by
    by_cases hi : i < T.length
    · exact hT i hi
    · rw [Array.getElem?_eq_none (by omega), List.getElem?_eq_none (by omega)]
      rfl
  have hM : P.funcs.toList.map (fun g => (P.leadsTo g).length + 1) = T.map fun e => e.length + 1 := by
    apply List.ext_getElem?
    intro i
    rw [List.getElem?_map, List.getElem?_map]
    by_cases hi : i < T.length
    · have h1 := hT i hi
      rw [Array.getElem?_eq_getElem (by omega), List.getElem?_eq_getElem hi] at h1
      rw [List.getElem?_eq_getElem (by simpa [hs] using hi), List.getElem?_eq_getElem hi]
      simp only [Option.elim_some, Option.getD_some] at h1
      simp only [Option.map_some, Array.getElem_toList, h1]
    · rw [List.getElem?_eq_none (by simpa [hs] using Nat.le_of_not_lt hi), List.getElem?_eq_none (by omega)]
      rfl
  unfold Program.closure
  rw [hM]
  exact fastV_law hA n [f] 0 [] l (fun g => by simp) h _ hn

end
end Go.L

