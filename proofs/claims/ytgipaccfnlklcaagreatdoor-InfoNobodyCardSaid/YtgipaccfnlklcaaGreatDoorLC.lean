import Derived.Test.YtgipaccfnlklcaaGreatDoorLB
import Derived.Scope
import Derived.RowKit3
import Derived.ReadAgain
import Derived.ChangeArms
import Derived.OpenShut
import Derived.ChangeSame
import Derived.RowKit
import GoSem.ClaimJoined
import Derived.WalkKit
import Derived.ProofKit
import Derived.ChangeCalls
import Derived.IntWalk
import Derived.Lib.Bytealg
import Derived.Laws.Externs
namespace Go.L
noncomputable section

def wantS (ops : Array Oper) (o : Oper) (st : St) : Option Bool :=
  match o.guard with
  | none => some true
  | some (j, want) => match dstOf ops j with
    | none => none
    | some cj => match lk st.s cj with
      | .v (.bool b) => some (b == want)
      | .un => some false
      | _ => none

def stp (E : Env) (ops : Array Oper) (o : Oper) (st : St) : Option St :=
  match wantS ops o st with
  | some true => evOp E o st some
  | some false => fin E o st some .un st.l st.h
  | none => none

def flat (E : Env) (ops : Array Oper) : List Oper → St → Option St
  | [], st => some st
  | o :: r, st => (stp E ops o st).bind (flat E ops r)

theorem flat_append {E : Env} {ops : Array Oper} : ∀ (l l' : List Oper) (st : St), flat E ops (l ++ l') st = (flat E ops l st).bind (flat E ops l')
  | [], l', st => rfl
  | o :: l, l', st => by
    simp only [List.cons_append, flat]
    cases stp E ops o st with
    | none => rfl
    | some st' => exact flat_append l l' st'

structure St.le (st st2 : St) : Prop where
  s : ∀ i, S.le (lk st.s i) (lk st2.s i)
  l : ∀ t, lkl st2.l t = lkl st.l t
  h : st2.h = st.h

theorem St.le_refl (st : St) : St.le st st := ⟨fun _ => .inr rfl, fun _ => rfl, rfl⟩
theorem St.le_trans {a b c : St} (h : St.le a b) (h' : St.le b c) : St.le a c := ⟨fun i => S.le_trans (h.s i) (h'.s i), fun t => (h'.l t).trans (h.l t), h'.h.trans h.h⟩

def fixS (E : Env) (d : Nat) (x : S) : S :=
  match lpOk E d x with
  | true => x
  | false => .bad

theorem fixS_le {E : Env} {d : Nat} {x y : S} (h : S.le x y) : S.le (fixS E d x) (fixS E d y) := by
  rcases h with h | h
  · left; subst h; rfl
  · right; rw [h]

theorem lpOk_fix (E : Env) (d : Nat) (x : S) : lpOk E d (fixS E d x) = true := by
  unfold fixS
  split
  · assumption
  · rfl

def outS (E : Env) (o : Oper) (st : St) (x : S) (l : List (Nat × List V)) (h : H) : St :=
  match o.dst with
  | none => ⟨st.s, l, h⟩
  | some d => ⟨(d, fixS E d x) :: st.s, l, h⟩

theorem fin_out {R : Type} {E : Env} {o : Oper} {st : St} {K : St → Option R} {x : S} {l : List (Nat × List V)} {h : H} {r : R} (he : fin E o st K x l h = some r) :
    K (outS E o st x l h) = some r ∧ ∀ (st2 : St) (R2 : Type) (K2 : St → Option R2) (x2 : S) (l2 : List (Nat × List V)) (h2 : H), fin E o st2 K2 x2 l2 h2 = K2 (outS E o st2 x2 l2 h2) := by
  unfold fin at he ⊢
  unfold outS
  cases hd : o.dst with
  | none => rw [hd] at he; exact ⟨he, fun _ _ _ _ _ _ => rfl⟩
  | some d =>
    rw [hd] at he
    simp only at he ⊢
    cases hb : Nat.blt d E.n with
    | false => rw [hb] at he; cases he
    | true =>
      rw [hb] at he
      simp only at he ⊢
      constructor
      · unfold fixS
        split at he <;> (rename_i hl; rw [hl]; exact he)
      · intro st2 R2 K2 x2 l2 h2
        unfold fixS
        split <;> rename_i hl <;> rw [hl]

section
variable {E : Env} {ops : Array Oper}

theorem LpOk.out {o : Oper} {st : St} (h : LpOk E st) (x : S) (l : List (Nat × List V)) (h' : H) : LpOk E (outS E o st x l h') := by
  intro i
  unfold outS
  cases o.dst with
  | none => exact h i
  | some d =>
    show lpOk E i (lk ((d, fixS E d x) :: st.s) i) = true
    rw [lk_cons]
    by_cases e : d = i
    · subst e; rw [if_pos rfl]; exact lpOk_fix E d x
    · rw [if_neg e]; exact h i

structure AlikeG (E : Env) (ops : Array Oper) (o : Oper) (st st2 : St) : Prop where
  s : ∀ t ∈ o.looksAt ops, S.le (lk st.s t) (lk st2.s t)
  h : ∀ b, skey E o = some (none, b) → st2.h = st.h
  l : ∀ t b, skey E o = some (some t, b) → lkl st2.l t = lkl st.l t

theorem AlikeG.alike {o : Oper} {st st2 : St} (h : AlikeG E ops o st st2) : Alike E o st st2 where
  ops x hx := by
    cases x with
    | tmp t =>
      refine h.s t (List.mem_append_left _ (List.mem_filterMap.2 ⟨.tmp t, by simpa using hx, rfl⟩))
    | const v => exact .inr rfl
    | global g => exact .inr rfl
    | func f => exact .inr rfl
  h := h.h
  l := h.l

theorem wantS_alike {o : Oper} {st st2 : St} (h : AlikeG E ops o st st2) {b : Bool} (hw : wantS ops o st = some b) : wantS ops o st2 = some b := by
  unfold wantS at hw ⊢
  cases hg : o.guard with
  | none => rw [hg] at hw; exact hw
  | some p =>
    obtain ⟨j, want⟩ := p
    rw [hg] at hw
    simp only at hw ⊢
    cases hd : dstOf ops j with
    | none => rw [hd] at hw; cases hw
    | some cj =>
      rw [hd] at hw
      simp only at hw ⊢
      have hle : S.le (lk st.s cj) (lk st2.s cj) := h.s cj (List.mem_append_right _ (by
        unfold dstOf at hd
        simp [hg, hd]))
      have : lk st2.s cj = lk st.s cj := by
        rcases hle with h | h
        · rw [h] at hw; cases hw
        · exact h.symm
      rw [this]
      exact hw

theorem stp_shape {o : Oper} {st st1 : St} (hlp : LpOk E st) (h : stp E ops o st = some st1) :
    ∃ x l h', st1 = outS E o st x l h' ∧ ∀ st2, AlikeG E ops o st st2 → ∃ x2 l2 h2, S.le x x2 ∧ MemOk (skey E o) st st2 l h' l2 h2 ∧ stp E ops o st2 = some (outS E o st2 x2 l2 h2) := by
  unfold stp at h
  split at h
  · rename_i hw
    obtain ⟨x, l, h', he, hs⟩ := evOp_shape hlp h
    obtain ⟨e1, e2⟩ := fin_out he
    cases e1
    refine ⟨x, l, h', rfl, fun st2 ha => ?_⟩
    obtain ⟨x2, l2, h2, k1, k2, k3⟩ := hs st2 ha.alike
    refine ⟨x2, l2, h2, k1, k2, ?_⟩
    unfold stp
    rw [wantS_alike ha hw]
    exact (k3 St some).trans (e2 st2 St some x2 l2 h2)
  · rename_i hw
    obtain ⟨e1, e2⟩ := fin_out h
    cases e1
    refine ⟨.un, st.l, st.h, rfl, fun st2 ha => ⟨.un, st2.l, st2.h, .inr rfl, .same ha.h ha.l, ?_⟩⟩
    unfold stp
    rw [wantS_alike ha hw]
    exact e2 st2 St some _ _ _
  · cases h

theorem out_le {o : Oper} {st st2 : St} (hle : St.le st st2) {x x2 : S} (hx : S.le x x2) {l l2 : List (Nat × List V)} {h h2 : H} (hm : MemOk (skey E o) st st2 l h l2 h2) :
    St.le (outS E o st x l h) (outS E o st2 x2 l2 h2) := by
  have hl : ∀ t, lkl l2 t = lkl l t := by
    intro t
    rcases hm.l1 t with h | ⟨h, h'⟩
    · exact hm.le t h
    · rw [h, h', hle.l t]
  have hh : h2 = h := by
    rcases hm.h1 with h | ⟨h, h'⟩
    · exact hm.he h
    · rw [h, h', hle.h]
  unfold outS
  cases o.dst with
  | none => exact ⟨hle.s, hl, hh⟩
  | some d =>
    refine ⟨fun i => ?_, hl, hh⟩
    show S.le (lk ((d, fixS E d x) :: st.s) i) (lk ((d, fixS E d x2) :: st2.s) i)
    rw [lk_cons, lk_cons]
    by_cases e : d = i
    · rw [if_pos e, if_pos e]; exact fixS_le hx
    · rw [if_neg e, if_neg e]; exact hle.s i

theorem St.le.alikeG {st st2 : St} (h : St.le st st2) (o : Oper) : AlikeG E ops o st st2 := ⟨fun t _ => h.s t, fun _ _ => h.h, fun t _ _ => h.l t⟩

theorem flat_mono : ∀ (l : List Oper) {st st2 st' : St}, flat E ops l st = some st' → LpOk E st → St.le st st2 → ∃ st2', flat E ops l st2 = some st2' ∧ St.le st' st2'
  | [], st, st2, st', h, _, hle => by
    cases h
    exact ⟨st2, rfl, hle⟩
  | o :: l, st, st2, st', h, hlp, hle => by
    simp only [flat] at h
    obtain ⟨st1, h1, h2⟩ := Option.bind_eq_some_iff.1 h
    obtain ⟨x, lx, hx, rfl, hs⟩ := stp_shape hlp h1
    obtain ⟨x2, l2, h2', k1, k2, k3⟩ := hs st2 (hle.alikeG o)
    obtain ⟨sf, m1, m2⟩ := flat_mono l h2 (hlp.out _ _ _) (out_le hle k1 k2)
    exact ⟨sf, by simp only [flat, k3, Option.bind_some, m1], m2⟩

theorem flat_lp : ∀ (l : List Oper) {st st' : St}, flat E ops l st = some st' → LpOk E st → LpOk E st'
  | [], st, st', h, hlp => by cases h; exact hlp
  | o :: l, st, st', h, hlp => by
    simp only [flat] at h
    obtain ⟨st1, h1, h2⟩ := Option.bind_eq_some_iff.1 h
    obtain ⟨x, lx, hx, rfl, hs⟩ := stp_shape hlp h1
    exact flat_lp l h2 (hlp.out _ _ _)

theorem quiet_key {o : Oper} (h : quietL E o = true) (t : Nat) : skey E o ≠ some (some t, true) := by
  intro hk
  unfold quietL at h
  unfold skey at hk
  cases ho : o.op <;> simp only [ho] at hk h <;> (repeat' split at hk) <;> simp_all

theorem flat_kept : ∀ (l : List Oper) {st st' : St}, flat E ops l st = some st' → LpOk E st →
    (∀ i, (∀ o ∈ l, o.dst ≠ some i) → lk st'.s i = lk st.s i) ∧ ((∀ o ∈ l, quietL E o = true) → ∀ t, lkl st'.l t = lkl st.l t)
  | [], st, st', h, hlp => by cases h; exact ⟨fun _ _ => rfl, fun _ _ => rfl⟩
  | o :: l, st, st', h, hlp => by
    simp only [flat] at h
    obtain ⟨st1, h1, h2⟩ := Option.bind_eq_some_iff.1 h
    obtain ⟨x, lx, hx, rfl, hs⟩ := stp_shape hlp h1
    obtain ⟨k1, k2⟩ := flat_kept l h2 (hlp.out _ _ _)
    obtain ⟨x2, l2, h2', _, hm, _⟩ := hs st ((St.le_refl st).alikeG o)
    refine ⟨fun i hi => ?_, fun hq t => ?_⟩
    · rw [k1 i fun o' ho' => hi o' (List.mem_cons_of_mem _ ho')]
      have := hi o (List.mem_cons_self ..)
      unfold outS
      cases hd : o.dst with
      | none => rfl
      | some d =>
        show lk ((d, fixS E d x) :: st.s) i = _
        rw [lk_cons, if_neg (fun e => this (by rw [hd, e]))]
    · rw [k2 fun o' ho' => hq o' (List.mem_cons_of_mem _ ho')]
      have hl : (outS E o st x lx hx).l = lx := by unfold outS; cases o.dst <;> rfl
      rw [hl]
      rcases hm.l1 t with h | ⟨h, _⟩
      · exact absurd h (quiet_key (hq o (List.mem_cons_self ..)) t)
      · exact h

def kEq : Option Nat → Option Nat → Bool
  | none, none => true
  | some a, some b => Nat.beq a b
  | _, _ => false

def keysApart : Option (Option Nat × Bool) → Option (Option Nat × Bool) → Bool
  | some (a, w), some (b, w') => !(w || w') || !(kEq a b)
  | _, _ => true

theorem kEq_refl : ∀ a, kEq a a = true
  | none => rfl
  | some a => by simp [kEq]

theorem keysApart_spec {k k' : Option (Option Nat × Bool)} (h : keysApart k k' = true) : (∀ a b, k = some (a, true) → k' ≠ some (a, b)) ∧ (∀ a b, k' = some (a, true) → k ≠ some (a, b)) := by
  refine ⟨fun a b h1 h2 => ?_, fun a b h1 h2 => ?_⟩ <;> subst h1 <;> subst h2 <;> simp [keysApart, kEq_refl] at h

def fillOf (E : Env) (o : Oper) : Option Nat :=
  match o.op with
  | .makeSlice _ _ _ => match fzOf E o, o.guard with
    | false, none => rsOf E o
    | _, _ => none
  | _ => none

def fills (E : Env) (x y : Oper) : Bool :=
  match fillOf E x, fillOf E y with
  | some d, some d' => !(Nat.beq d d')
  | _, _ => false

def loadOf (E : Env) (o : Oper) : Bool :=
  match o.op, o.guard with
  | .load _ _, none => !rlOf E o
  | _, _ => false

def groOf (E : Env) (o : Oper) : Bool :=
  match o.op, o.guard with
  | .call c, none => match c.callee with
    | .value (.func f) => match E.cal f with
      | some (.gro _) => !fzOf E o
      | _ => false
    | _ => false
  | .buildSlice _ _ _, none => !ownOf E o
  | _, _ => false

def lkMe (x y : Oper) : Bool :=
  match x.op, y.op, x.guard, y.guard with
  | .lookup t (.tmp m) (.tmp k) false, .mapEntry t' (.tmp m') (.tmp k'), none, none => Nat.beq t t' && (Nat.beq m m' && Nat.beq k k')
  | _, _, _, _ => false

def indep (E : Env) (ops : Array Oper) (x y : Oper) : Bool := x.apart ops y && ((keysApart (skey E x) (skey E y) || fills E x y) || ((loadOf E x && groOf E y) || lkMe x y))

theorem rd_ext {h h2 : H} (g : Grows h h2) {p v : V} {i : Nat} (hr : rd h p i = some v) : rd h2 p i = some v := by
  cases p with
  | ptr id ver off =>
    simp only [rd] at hr ⊢
    split at hr
    · rename_i v0 cs ho
      rw [g.2 id (List.getElem?_eq_some_iff.1 ho).1, ho]
      exact hr
    · cases hr
  | _ => simpa only [rd] using hr

theorem rdN_ext {h h2 : H} (g : Grows h h2) {p : V} {cs : List V} {n : Nat} (hr : rdN h p n = some cs) : rdN h2 p n = some cs := by
  cases p with
  | ptr id ver off =>
    simp only [rdN] at hr ⊢
    split at hr
    · rename_i v0 cs ho
      rw [g.2 id (List.getElem?_eq_some_iff.1 ho).1, ho]
      exact hr
    · cases hr
  | _ => simpa only [rdN] using hr

theorem get_ext {st st2 : St} {x : S} (hl : ∀ t, lkl st2.l t = lkl st.l t) (g : Grows st.h st2.h) {i : Nat} {v : V} (h : st.get x i = some v) : st2.get x i = some v := by
  cases x with
  | lp t off => simp only [St.get, hl] at h ⊢; exact h
  | v p => exact rd_ext g h
  | p p => exact rd_ext g h
  | bad => simp [St.get] at h
  | un => simp [St.get] at h

theorem getN_ext {st st2 : St} {x : S} (hl : ∀ t, lkl st2.l t = lkl st.l t) (g : Grows st.h st2.h) {n : Nat} {cs : List V} (h : st.getN x n = some cs) : st2.getN x n = some cs := by
  cases x with
  | lp t off => simp only [St.getN, hl] at h ⊢; exact h
  | v p => exact rdN_ext g h
  | p p => exact rdN_ext g h
  | bad => simp [St.getN] at h
  | un => simp [St.getN] at h

theorem load_ext {R : Type} {o : Oper} {st : St} {K : St → Option R} {r : R} (hd : loadOf E o = true) (he : evOp E o st K = some r) :
    ∃ x, fin E o st K x st.l st.h = some r ∧ ∀ st2 : St, (∀ y ∈ o.op.operands, S.le (st.opnd y) (st2.opnd y)) → (∀ t, lkl st2.l t = lkl st.l t) → Grows st.h st2.h →
      ∀ (R2 : Type) (K2 : St → Option R2), evOp E o st2 K2 = fin E o st2 K2 x st2.l st2.h := by
  unfold loadOf at hd
  split at hd
  case h_2 => cases hd
  rename_i t a ho hg
  have hrl : rlOf E o = false := by simpa using hd
  have hbad : st.opnd a ≠ .bad := by
    intro hb
    unfold evOp at he
    simp only [ho, hrl, hb] at he
    split at he
    · rename_i l _
      obtain ⟨v, hv, _⟩ := dest_inv he
      simp [St.get] at hv
    · rename_i ls hls
      obtain ⟨vs, h1, h2, _⟩ := rdLs_inv he
      obtain ⟨_, _, c2⟩ := (tyOf_cases E.P 2 t).2.1 ls hls
      cases vs with
      | nil => simp at h1; omega
      | cons v vs => have := h2 0 v rfl; simp [St.get] at this
    · simp [St.getN] at he
    · cases he
  have same : ∀ st2 : St, (∀ y ∈ o.op.operands, S.le (st.opnd y) (st2.opnd y)) → st2.opnd a = st.opnd a := fun st2 hs => by
    rcases hs a (by simp [ho, Op.operands]) with h | h
    · exact absurd h hbad
    · exact h.symm
  unfold evOp at he
  simp only [ho, hrl] at he
  split at he
  · rename_i l hl
    obtain ⟨v0, h0, _⟩ := dest_inv he
    obtain ⟨v, he, hv⟩ := dest_thru _ _ _ _ _ he
    refine ⟨_, he, fun st2 hs hll g R2 K2 => ?_⟩
    unfold evOp
    simp only [ho, hrl, hl, same st2 hs, get_ext hll g h0]
    rw [h0] at hv
    exact hv R2 _
  · rename_i ls hl
    obtain ⟨v, he, hv⟩ := rdLs_thru _ _ _ _ _ _ he
    refine ⟨_, he, fun st2 hs hll g R2 K2 => ?_⟩
    unfold evOp
    simp only [ho, hrl, hl, same st2 hs]
    have h1 : rdLs ls (st.get (st.opnd a)) 0 (fun vs => some vs) = some v := hv _ _
    have h2 := rdLs_mono (g' := st2.get (st.opnd a)) (fun i u hu => get_ext hll g hu) h1
    obtain ⟨v', e1, e2⟩ := rdLs_thru _ _ _ _ _ _ h2
    cases e1
    exact e2 R2 _
  · rename_i n hl
    obtain ⟨cs, hc, he⟩ := Option.bind_eq_some_iff.1 he
    refine ⟨_, he, fun st2 hs hll g R2 K2 => ?_⟩
    unfold evOp
    simp only [ho, hrl, hl, same st2 hs, getN_ext hll g hc, Option.bind_some]
    rfl
  · cases he

theorem gro_ev (hE : Good E) {R : Type} {o : Oper} {st : St} {K : St → Option R} {r : R} (hd : groOf E o = true) (he : evOp E o st K = some r) :
    ∃ (v : V) (h' : H), Grows st.h h' ∧ fin E o st K (.v v) st.l h' = some r ∧
      ∀ st2 : St, (∀ x ∈ o.op.operands, S.le (st.opnd x) (st2.opnd x)) → st2.h = st.h → ∀ (R2 : Type) (K2 : St → Option R2), evOp E o st2 K2 = fin E o st2 K2 (.v v) st2.l h' := by
  unfold groOf at hd
  split at hd
  case h_3 => cases hd
  case h_2 =>
    rename_i t len ps ho hg
    have hown : ownOf E o = false := by simpa using hd
    unfold evOp at he
    simp only [ho] at he
    obtain ⟨e, h1, he⟩ := Option.bind_eq_some_iff.1 he
    obtain ⟨z, h2, he⟩ := Option.bind_eq_some_iff.1 he
    split at he
    case isFalse => cases he
    rename_i h3
    split at he
    case isTrue => cases he
    rename_i h4
    split at he
    case isFalse => cases he
    rename_i h5
    have hmem : ∀ p ∈ ps.toList, p.2 ∈ o.op.operands := by
      intro p hp
      simp only [ho, Op.operands, List.mem_toArray, List.mem_map]
      exact ⟨p, hp, rfl⟩
    obtain ⟨v, he, hb⟩ := buildS_thru E (fun i => some (i * E.P.cellsOf e, e)) st ps.toList _ _ _ _ he
    simp only [hown] at he
    refine ⟨_, _, ⟨by simp, fun i hi => List.getElem?_append_left hi⟩, he, fun st2 hs hh R2 K2 => ?_⟩
    unfold evOp
    simp only [ho, if_pos h3, if_neg h4, if_pos h5, h1, h2, Option.bind_some, hown]
    rw [← hh]
    exact hb st2 (fun p hp => hs _ (hmem p hp)) R2 _
  rename_i c ho hg
  split at hd
  case h_2 => cases hd
  rename_i f hc
  split at hd
  case h_2 => cases hd
  rename_i F hF
  have hfz : fzOf E o = false := by simpa using hd
  have hargs : ∀ x ∈ c.args.toList, x ∈ o.op.operands := fun x hx => by
    simp only [ho, Op.operands, Call.operands, Array.mem_append]; exact .inr (by simpa using hx)
  unfold evOp at he
  simp only [ho, hc] at he
  obtain ⟨vs, he, _, hv⟩ := argsK_thru _ _ _ _ _ he
  unfold callK at he
  simp only [hF, hfz] at he
  obtain ⟨q, h1, he⟩ := Option.bind_eq_some_iff.1 he
  obtain ⟨u, he, hu⟩ := tyDest_thru _ _ _ _ _ he
  obtain ⟨_, hgr⟩ := hE.cal f _ hF vs st.h q h1
  refine ⟨u, (F.out q).2, hgr, he, fun st2 hs hh R2 K2 => ?_⟩
  unfold evOp
  simp only [ho, hc]
  rw [hv st2 (fun x hx => hs x (hargs x hx)) R2 _]
  unfold callK
  simp only [hF, hfz, hh, h1, Option.bind_some]
  exact hu R2 _

theorem hfill_inv {h h' : H} {d : Nat} {cs : List V} (hf : hfill h d cs = some h') : h[h.length - d]? = some .rsv ∧ h' = h.set (h.length - d) (.cells 1 cs) := by
  unfold hfill at hf
  split at hf
  · rename_i hi; cases hf; exact ⟨hi, rfl⟩
  · cases hf

theorem fill_ev {R : Type} {o : Oper} {st : St} {K : St → Option R} {r : R} {d : Nat} (hd : fillOf E o = some d) (he : evOp E o st K = some r) :
    ∃ (v : V) (cs : List V) (h' : H), hfill st.h d cs = some h' ∧ fin E o st K (.v v) st.l h' = some r ∧
      ∀ (st2 : St) (h2 : H), (∀ x ∈ o.op.operands, S.le (st.opnd x) (st2.opnd x)) → st2.h.length = st.h.length → hfill st2.h d cs = some h2 →
        ∀ (R2 : Type) (K2 : St → Option R2), evOp E o st2 K2 = fin E o st2 K2 (.v v) st2.l h2 := by
  unfold fillOf at hd
  split at hd
  case h_2 => cases hd
  rename_i t x y ho
  split at hd
  case h_2 => cases hd
  rename_i hfz hg
  have hx0 : x ∈ o.op.operands := by simp [ho, Op.operands]
  have hy0 : y ∈ o.op.operands := by simp [ho, Op.operands]
  unfold evOp at he
  simp only [ho] at he
  split at he
  case h_2 => cases he
  rename_i l c e hx hy hel
  obtain ⟨z, hz, he⟩ := Option.bind_eq_some_iff.1 he
  split at he
  case isTrue => cases he
  rename_i h1
  split at he
  case isFalse => cases he
  rename_i h2
  split at he
  case isFalse => cases he
  rename_i h3
  split at he
  case isFalse => cases he
  rename_i h4
  split at he
  case isFalse => cases he
  rename_i h5
  split at he
  case isFalse => cases he
  rename_i h6
  simp only [hfz, hd] at he
  obtain ⟨h', hfl, he⟩ := Option.bind_eq_some_iff.1 he
  refine ⟨_, _, h', hfl, he, fun st2 hh hs hlen hf2 R2 K2 => ?_⟩
  unfold evOp
  simp only [ho, S.le_v (hs x hx0) hx, S.le_v (hs y hy0) hy, hel, hz, Option.bind_some, if_neg h1, if_pos h2, if_pos h3, if_pos h4, if_pos h5, if_pos h6, hfz, hd, hf2, hlen]

theorem fill_guard {o : Oper} {d : Nat} (hd : fillOf E o = some d) : o.guard = none := by
  unfold fillOf at hd
  split at hd
  · split at hd
    · assumption
    · cases hd
  · cases hd

theorem opnds_le {o : Oper} {st st2 : St} (h : ∀ t ∈ o.looksAt ops, S.le (lk st.s t) (lk st2.s t)) : ∀ x ∈ o.op.operands, S.le (st.opnd x) (st2.opnd x) := by
  intro x hx
  cases x with
  | tmp t => exact h t (List.mem_append_left _ (List.mem_filterMap.2 ⟨.tmp t, by simpa using hx, rfl⟩))
  | const v => exact .inr rfl
  | global g => exact .inr rfl
  | func f => exact .inr rfl

theorem lk_out {o : Oper} {st : St} {x : S} {l : List (Nat × List V)} {h : H} (i : Nat) (hi : o.dst ≠ some i) : lk (outS E o st x l h).s i = lk st.s i := by
  unfold outS
  cases hd : o.dst with
  | none => rfl
  | some d =>
    show lk ((d, fixS E d x) :: st.s) i = _
    rw [lk_cons, if_neg (fun e => hi (by rw [hd, e]))]

theorem out_l {o : Oper} {st : St} {x : S} {l : List (Nat × List V)} {h : H} : (outS E o st x l h).l = l := by unfold outS; cases o.dst <;> rfl
theorem out_h {o : Oper} {st : St} {x : S} {l : List (Nat × List V)} {h : H} : (outS E o st x l h).h = h := by unfold outS; cases o.dst <;> rfl

theorem swapFill {o p : Oper} {st st1 st2 : St} (h1 : stp E ops o st = some st1) (h2 : stp E ops p st1 = some st2) (hlp : LpOk E st) (ha : o.apart ops p = true) (hf : fills E o p = true) :
    ∃ sJ sF, stp E ops p st = some sJ ∧ stp E ops o sJ = some sF ∧ St.le st2 sF ∧ LpOk E sJ := by
  obtain ⟨a1, a2, a3⟩ := Oper.apart_spec ha
  unfold fills at hf
  split at hf
  case h_2 => cases hf
  rename_i d d' hd hd'
  have go := fill_guard hd
  have gp := fill_guard hd'
  have wo : ∀ s, wantS ops o s = some true := fun s => by simp [wantS, go]
  have wp : ∀ s, wantS ops p s = some true := fun s => by simp [wantS, gp]
  have so : ∀ s, stp E ops o s = evOp E o s some := fun s => by simp only [stp, wo s]
  have sp : ∀ s, stp E ops p s = evOp E p s some := fun s => by simp only [stp, wp s]
  rw [so] at h1
  rw [sp] at h2
  obtain ⟨v, cs, h', f1, e1, k1⟩ := fill_ev hd h1
  obtain ⟨i1, i2⟩ := fin_out e1
  cases i1
  obtain ⟨v2, cs2, g', f2, e2, k2⟩ := fill_ev hd' h2
  obtain ⟨j1, j2⟩ := fin_out e2
  cases j1
  rw [out_h] at f2
  obtain ⟨r1, rfl⟩ := hfill_inv f1
  obtain ⟨r2, rfl⟩ := hfill_inv f2
  have hl1 : (st.h.set (st.h.length - d) (.cells 1 cs)).length = st.h.length := by simp
  rw [hl1] at r2 f2
  have hlt : st.h.length - d < st.h.length := (List.getElem?_eq_some_iff.1 r1).1
  have hne : st.h.length - d ≠ st.h.length - d' := by
    intro e
    rw [← e, List.getElem?_set_self hlt] at r2
    cases r2
  rw [List.getElem?_set_ne hne] at r2
  have q1 : hfill st.h d' cs2 = some (st.h.set (st.h.length - d') (.cells 1 cs2)) := by unfold hfill; rw [r2]
  have t1 := k2 st _ (opnds_le (ops := ops) fun t ht => by rw [lk_out t fun e => a1 t e ht]; exact .inr rfl) (by rw [out_h, hl1]) q1 St some
  rw [j2 st St some (.v v2) st.l (st.h.set (st.h.length - d') (.cells 1 cs2))] at t1
  have q2 : hfill (outS E p st (.v v2) st.l (st.h.set (st.h.length - d') (.cells 1 cs2))).h d cs = some ((st.h.set (st.h.length - d') (.cells 1 cs2)).set (st.h.length - d) (.cells 1 cs)) := by
    rw [out_h]
    unfold hfill
    rw [List.length_set, List.getElem?_set_ne (Ne.symm hne), r1]
  have t2 := k1 _ _ (opnds_le (ops := ops) (st2 := outS E p st (.v v2) st.l (st.h.set (st.h.length - d') (.cells 1 cs2))) fun t ht => by rw [lk_out t fun e => a3 t e ht]; exact .inr rfl) (by rw [out_h, List.length_set]) q2 St some
  rw [i2 _ St some (.v v) _ _] at t2
  refine ⟨_, _, (sp st).trans t1, (so _).trans t2, ⟨fun i => ?_, fun t => ?_, ?_⟩, hlp.out _ _ _⟩
  · by_cases hp : p.dst = some i
    · have ho : o.dst ≠ some i := fun e => a2 i e hp
      rw [lk_out (o := o) i ho]
      unfold outS
      rw [hp]
      show S.le (lk ((i, fixS E i (.v v2)) :: _) i) (lk ((i, fixS E i (.v v2)) :: _) i)
      rw [lk_cons, lk_cons, if_pos rfl, if_pos rfl]
      exact .inr rfl
    · rw [lk_out (o := p) i hp]
      by_cases ho : o.dst = some i
      · unfold outS
        rw [ho]
        show S.le (lk ((i, fixS E i (.v v)) :: _) i) (lk ((i, fixS E i (.v v)) :: _) i)
        rw [lk_cons, lk_cons, if_pos rfl, if_pos rfl]
        exact .inr rfl
      · rw [lk_out i ho, lk_out i ho, lk_out i hp]
        exact .inr rfl
  · rw [out_l, out_l, out_l, out_l]
  · rw [out_h, out_h, hl1, List.set_comm _ _ hne]

theorem swapGrow (hE : Good E) {o p : Oper} {st st1 st2 : St} (h1 : stp E ops o st = some st1) (h2 : stp E ops p st1 = some st2) (hlp : LpOk E st) (ha : o.apart ops p = true) (hl : loadOf E o = true) (hg : groOf E p = true) :
    ∃ sJ sF, stp E ops p st = some sJ ∧ stp E ops o sJ = some sF ∧ St.le st2 sF ∧ LpOk E sJ := by
  obtain ⟨a1, a2, a3⟩ := Oper.apart_spec ha
  have go : o.guard = none := by
    unfold loadOf at hl
    split at hl
    · assumption
    · cases hl
  have gp : p.guard = none := by
    unfold groOf at hg
    split at hg
    · assumption
    · assumption
    · cases hg
  have so : ∀ s, stp E ops o s = evOp E o s some := fun s => by simp only [stp, wantS, go]
  have sp : ∀ s, stp E ops p s = evOp E p s some := fun s => by simp only [stp, wantS, gp]
  rw [so] at h1
  rw [sp] at h2
  obtain ⟨x, e1, k1⟩ := load_ext hl h1
  obtain ⟨i1, i2⟩ := fin_out e1
  cases i1
  obtain ⟨v, h', hgr, e2, k2⟩ := gro_ev hE hg h2
  obtain ⟨j1, j2⟩ := fin_out e2
  cases j1
  rw [out_h] at hgr
  have t1 := k2 st (opnds_le (ops := ops) fun t ht => by rw [lk_out t fun e => a1 t e ht]; exact .inr rfl) (by rw [out_h]) St some
  rw [j2 st St some (.v v) st.l h'] at t1
  have t2 := k1 (outS E p st (.v v) st.l h') (opnds_le (ops := ops) fun t ht => by rw [lk_out t fun e => a3 t e ht]; exact .inr rfl) (fun t => by rw [out_l]) (by rw [out_h]; exact hgr) St some
  rw [i2 _ St some x _ _] at t2
  refine ⟨_, _, (sp st).trans t1, (so _).trans t2, ⟨fun i => ?_, fun t => ?_, ?_⟩, hlp.out _ _ _⟩
  · by_cases hp : p.dst = some i
    · have ho : o.dst ≠ some i := fun e => a2 i e hp
      rw [lk_out (o := o) i ho]
      unfold outS
      rw [hp]
      show S.le (lk ((i, fixS E i (.v v)) :: _) i) (lk ((i, fixS E i (.v v)) :: _) i)
      rw [lk_cons, lk_cons, if_pos rfl, if_pos rfl]
      exact .inr rfl
    · rw [lk_out (o := p) i hp]
      by_cases ho : o.dst = some i
      · unfold outS
        rw [ho]
        show S.le (lk ((i, fixS E i x) :: _) i) (lk ((i, fixS E i x) :: _) i)
        rw [lk_cons, lk_cons, if_pos rfl, if_pos rfl]
        exact .inr rfl
      · rw [lk_out i ho, lk_out i ho, lk_out i hp]
        exact .inr rfl
  · rw [out_l, out_l, out_l, out_l]
  · rw [out_h, out_h, out_h]

def keySelf (a : V) : Prop := keq a a = some true

theorem midx_some {k : V} (hk : keySelf k) : ∀ {es : List (V × V)} {j : Nat}, midx k es = some (some j) → ∃ e, es[j]? = some e ∧ mlook k es = some (some e.2) ∧ mlook k (es.set j (k, e.2)) = some (some e.2)
  | [], j, h => by simp [midx] at h
  | e :: r, j, h => by
    simp only [midx] at h
    obtain ⟨b, hb, h⟩ := Option.bind_eq_some_iff.1 h
    split at h
    · rename_i hb1
      cases h
      subst hb1
      refine ⟨e, rfl, by simp [mlook, hb], ?_⟩
      have : keq k k = some true := hk
      simp [mlook, this]
    · rename_i hb1
      obtain ⟨q, hq, h⟩ := Option.bind_eq_some_iff.1 h
      cases q with
      | none => cases h
      | some i =>
        cases h
        obtain ⟨e', h1, h2, h3⟩ := midx_some hk hq
        exact ⟨e', h1, by simp [mlook, hb, hb1, h2], by simp [mlook, hb, hb1, h3]⟩

theorem midx_none {k z : V} (hk : keySelf k) : ∀ {es : List (V × V)}, midx k es = some none → mlook k es = some none ∧ mlook k (es ++ [(k, z)]) = some (some z)
  | [], _ => by
    have : keq k k = some true := hk
    simp [mlook, this]
  | e :: r, h => by
    simp only [midx] at h
    obtain ⟨b, hb, h⟩ := Option.bind_eq_some_iff.1 h
    split at h
    · cases h
    · rename_i hb1
      obtain ⟨q, hq, h⟩ := Option.bind_eq_some_iff.1 h
      cases q with
      | some i => cases h
      | none =>
        obtain ⟨h1, h2⟩ := midx_none (z := z) hk hq
        exact ⟨by simp [mlook, hb, hb1, h1], by simp [mlook, hb, hb1, h2]⟩

theorem hentry_look {h : H} {m k z : V} {r : V × Int × H} {es : List (V × V)} {q : Option V} (hk : keySelf k) (he : hentry h m k z = some r) (hm : hmap h m = some es) (hl : mlook k es = some q) :
    ∃ es' q', hmap r.2.2 m = some es' ∧ mlook k es' = some q' ∧ q'.getD z = q.getD z := by
  unfold hentry at he
  split at he
  case h_2 => cases he
  rename_i id
  split at he
  case h_2 => cases he
  rename_i c bs es0 hid
  simp only [hmap, hid, Option.some.injEq] at hm
  subst hm
  have hlt := (List.getElem?_eq_some_iff.1 hid).1
  obtain ⟨x, hx, he⟩ := Option.bind_eq_some_iff.1 he
  cases x with
  | some j =>
    simp only at he
    split at he
    · rename_i e b h1 h2
      cases he
      obtain ⟨e', g1, g2, g3⟩ := midx_some hk hx
      rw [h1] at g1; cases g1
      rw [hl] at g2
      refine ⟨_, _, by simp [hmap, hlt], g3, by rw [Option.some.inj g2]⟩
    · cases he
  | none =>
    cases he
    obtain ⟨g1, g2⟩ := midx_none (z := z) hk hx
    rw [hl] at g1
    refine ⟨_, _, by simp [hmap, hlt], g2, by rw [Option.some.inj g1]; rfl⟩

theorem keyOk_self {P : Program} {t : TypeId} {k : V} (h : keyOk P t k = true) : keySelf k := by
  unfold keyOk at h
  unfold keySelf
  split at h
  · simp [keq]
  · rename_i s _
    have : (s == s) = true := by show (s.data == s.data) = true; simp
    simp [keq, this]
  · simp [keq]
  · rename_i cs _
    simp only [Bool.and_eq_true] at h
    have h := h.2.2.1
    have key : ∀ l : List V, allInts l = true → keqs l l = some true := by
      intro l
      induction l with
      | nil => intro _; rfl
      | cons v l ih =>
        intro h
        cases v <;> simp [allInts] at h
        simp [keqs, ih h]
    simp only [keq]
    exact key _ h
  · cases h

theorem swapEntry {o p : Oper} {st st1 st2 : St} (h1 : stp E ops o st = some st1) (h2 : stp E ops p st1 = some st2) (hlp : LpOk E st) (ha : o.apart ops p = true) (hl : lkMe o p = true) :
    ∃ sJ sF, stp E ops p st = some sJ ∧ stp E ops o sJ = some sF ∧ St.le st2 sF ∧ LpOk E sJ := by
  obtain ⟨a1, a2, a3⟩ := Oper.apart_spec ha
  unfold lkMe at hl
  split at hl
  case h_2 => cases hl
  rename_i t m k t' m' k' oo po go gp
  simp only [Bool.and_eq_true] at hl
  obtain ⟨e1, e2, e3⟩ := hl
  have e1 := Nat.eq_of_beq_eq_true e1
  have e2 := Nat.eq_of_beq_eq_true e2
  have e3 := Nat.eq_of_beq_eq_true e3
  subst e1; subst e2; subst e3
  have so : ∀ s, stp E ops o s = evOp E o s some := fun s => by simp only [stp, wantS, go]
  have sp : ∀ s, stp E ops p s = evOp E p s some := fun s => by simp only [stp, wantS, gp]
  rw [so] at h1
  rw [sp] at h2
  have mo : Operand.tmp m ∈ o.op.operands := by simp [oo, Op.operands]
  have ko : Operand.tmp k ∈ o.op.operands := by simp [oo, Op.operands]
  have mp : Operand.tmp m ∈ p.op.operands := by simp [po, Op.operands]
  have kp : Operand.tmp k ∈ p.op.operands := by simp [po, Op.operands]
  unfold evOp at h1
  simp only [oo] at h1
  split at h1
  case h_2 => cases h1
  rename_i mv key kt et hm hk hu
  split at h1
  case isFalse => cases h1
  rename_i hok
  obtain ⟨es, q1, h1⟩ := Option.bind_eq_some_iff.1 h1
  obtain ⟨q, q2, h1⟩ := Option.bind_eq_some_iff.1 h1
  obtain ⟨z, q3, h1⟩ := Option.bind_eq_some_iff.1 h1
  obtain ⟨v, h1, q4⟩ := tyDest1_thru _ _ _ _ _ h1
  obtain ⟨i1, i2⟩ := fin_out h1
  cases i1
  have hle := opnds_le (ops := ops) (o := p) (st := st) (st2 := outS E o st (.v v) st.l st.h) fun t ht => by rw [lk_out t fun e => a1 t e ht]; exact .inr rfl
  have hm2 := S.le_v (hle _ mp) hm
  have hk2 := S.le_v (hle _ kp) hk
  unfold evOp at h2
  simp only [po, hm2, hk2, hu, if_pos hok, out_h] at h2
  have main : ∃ (w : S) (h' : H), fin E p (outS E o st (.v v) st.l st.h) some w (outS E o st (.v v) st.l st.h).l h' = some st2 ∧ (∃ es' q', hmap h' mv = some es' ∧ mlook key es' = some q' ∧ q'.getD z = q.getD z) ∧
      evOp E p st some = fin E p st some w st.l h' := by
    split at h2
    case h_3 => cases h2
    all_goals
      rename_i ls hty
      simp only [q3, Option.bind_some] at h2
      obtain ⟨r, r1, h2⟩ := Option.bind_eq_some_iff.1 h2
      obtain ⟨u, h2, r2⟩ := tyDest1_thru _ _ _ _ _ h2
      refine ⟨_, _, h2, hentry_look (keyOk_self hok) r1 q1 q2, ?_⟩
      unfold evOp
      simp only [po, hm, hk, hu, if_pos hok, q3, r1, Option.bind_some, hty]
      rw [hty] at r2
      exact r2 _ _
  obtain ⟨w, h', h2, ⟨es', q', m1, m2, m3⟩, t1⟩ := main
  obtain ⟨j1, j2⟩ := fin_out h2
  cases j1
  rw [j2 st St some w st.l h'] at t1
  have hle2 := opnds_le (ops := ops) (o := o) (st := st) (st2 := outS E p st w st.l h') fun t ht => by rw [lk_out t fun e => a3 t e ht]; exact .inr rfl
  have t2 : evOp E o (outS E p st w st.l h') some = fin E o (outS E p st w st.l h') some (.v v) (outS E p st w st.l h').l (outS E p st w st.l h').h := by
    unfold evOp
    simp only [oo, S.le_v (hle2 _ mo) hm, S.le_v (hle2 _ ko) hk, hu, if_pos hok, out_h, m1, m2, q3, Option.bind_some, m3]
    refine (q4 _ _).trans ?_
    simp only [finV, out_h]
  rw [i2 _ St some (.v v) _ _] at t2
  refine ⟨_, _, (sp st).trans t1, (so _).trans t2, ⟨fun i => ?_, fun t => ?_, ?_⟩, hlp.out _ _ _⟩
  · by_cases hp : p.dst = some i
    · have ho : o.dst ≠ some i := fun e => a2 i e hp
      rw [lk_out (o := o) i ho]
      unfold outS
      rw [hp]
      show S.le (lk ((i, fixS E i w) :: _) i) (lk ((i, fixS E i w) :: _) i)
      rw [lk_cons, lk_cons, if_pos rfl, if_pos rfl]
      exact .inr rfl
    · rw [lk_out (o := p) i hp]
      by_cases ho : o.dst = some i
      · unfold outS
        rw [ho]
        show S.le (lk ((i, fixS E i (.v v)) :: _) i) (lk ((i, fixS E i (.v v)) :: _) i)
        rw [lk_cons, lk_cons, if_pos rfl, if_pos rfl]
        exact .inr rfl
      · rw [lk_out i ho, lk_out i ho, lk_out i hp]
        exact .inr rfl
  · rw [out_l, out_l, out_l, out_l]
  · rw [out_h, out_h, out_h]

def stAddr (o : Oper) : Option Nat :=
  match o.op, o.guard with
  | .store _ (.tmp a) _, none => some a
  | _, _ => none

def ptrOf (x : S) : Option Nat :=
  match x with
  | .p (.ptr id _ _) | .v (.ptr id _ _) => some id
  | _ => none

def sepS (x y : S) : Option Unit :=
  match ptrOf x, ptrOf y with
  | some i, some j => match Nat.beq i j with
    | true => none
    | false => some ()
  | _, _ => none

theorem sepS_spec {x y : S} (h : sepS x y = some ()) : ∃ i j, ptrOf x = some i ∧ ptrOf y = some j ∧ i ≠ j := by
  unfold sepS at h
  split at h
  · rename_i i j hi hj
    split at h
    · cases h
    · rename_i hb
      exact ⟨i, j, hi, hj, fun e => by subst e; rw [Nat.beq_refl] at hb; cases hb⟩
  · cases h

theorem sepS_le {x y x' y' : S} (h : sepS x y = some ()) (hx : S.le x x') (hy : S.le y y') : sepS x' y' = some () := by
  obtain ⟨i, j, hi, hj, _⟩ := sepS_spec h
  have ex : x = x' := by
    rcases hx with e | e
    · rw [e] at hi; cases hi
    · exact e
  have ey : y = y' := by
    rcases hy with e | e
    · rw [e] at hj; cases hj
    · exact e
  rw [← ex, ← ey]; exact h

theorem ptrOf_inv {x : S} {i : Nat} (h : ptrOf x = some i) : ∃ v off, x = .p (.ptr i v off) ∨ x = .v (.ptr i v off) := by
  unfold ptrOf at h
  split at h
  · cases h; exact ⟨_, _, .inl rfl⟩
  · cases h; exact ⟨_, _, .inr rfl⟩
  · cases h

theorem wr_swap {h h1 h2 : H} {i v off j v' off' : Nat} {xs ys : List V} (hij : i ≠ j) (e1 : wr h (.ptr i v off) xs = some h1) (e2 : wr h1 (.ptr j v' off') ys = some h2) :
    ∃ h1', wr h (.ptr j v' off') ys = some h1' ∧ wr h1' (.ptr i v off) xs = some h2 := by
  have inv : ∀ {h h1 : H} {i v off : Nat} {xs : List V}, wr h (.ptr i v off) xs = some h1 → ∃ cs, h[i]? = some (.cells v cs) ∧ off + xs.length ≤ cs.length ∧ h1 = h.set i (.cells v (splice cs off xs)) := by
    intro h h1 i v off xs e
    simp only [wr] at e
    split at e
    · rename_i v0 cs ho
      split at e
      · rename_i hv
        subst hv
        split at e
        · rename_i hl
          cases e; exact ⟨cs, ho, hl, rfl⟩
        · cases e
      · cases e
    · cases e
  obtain ⟨cs, o1, l1, rfl⟩ := inv e1
  obtain ⟨ds, o2, l2, rfl⟩ := inv e2
  rw [List.getElem?_set_ne hij] at o2
  have wo : ∀ {h : H} {id v off : Nat} {cs xs : List V}, h[id]? = some (.cells v cs) → off + xs.length ≤ cs.length → wr h (.ptr id v off) xs = some (h.set id (.cells v (splice cs off xs))) := fun ho hl => by simp [wr, ho, hl]
  refine ⟨_, wo o2 l2, ?_⟩
  rw [wo (cs := cs) (by rw [List.getElem?_set_ne (Ne.symm hij)]; exact o1) l1, List.set_comm _ _ (Ne.symm hij)]

theorem store_ev {R : Type} {o : Oper} {st : St} {K : St → Option R} {r : R} {a : Nat} {p : V} (ha : stAddr o = some a) (hp : lk st.s a = .p p ∨ lk st.s a = .v p) (he : evOp E o st K = some r) :
    ∃ (xs : List V) (h' : H), wr st.h p xs = some h' ∧ fin E o st K .bad st.l h' = some r ∧
      ∀ (st2 : St) (h2 : H), (∀ x ∈ o.op.operands, S.le (st.opnd x) (st2.opnd x)) → wr st2.h p xs = some h2 → ∀ (R2 : Type) (K2 : St → Option R2), evOp E o st2 K2 = fin E o st2 K2 .bad st2.l h2 := by
  unfold stAddr at ha
  split at ha
  case h_2 => cases ha
  rename_i t a' x ho hg
  cases ha
  have hx0 : x ∈ o.op.operands := by simp [ho, Op.operands]
  have ha0 : Operand.tmp a ∈ o.op.operands := by simp [ho, Op.operands]
  have hnb : lk st.s a ≠ .bad := by rcases hp with h | h <;> rw [h] <;> simp
  unfold evOp at he
  simp only [ho] at he
  split at he
  case h_2 => cases he
  rename_i xv hx
  obtain ⟨xs, he, hc⟩ := cellsAs_thru _ _ _ _ _ he
  have put : ∀ (st2 : St), lk st2.s a = lk st.s a → ∀ (R2 : Type) (K2 : List (Nat × List V) → H → Option R2), st2.put (st2.opnd (.tmp a)) xs K2 = (wr st2.h p xs).bind fun h => K2 st2.l h := by
    intro st2 e R2 K2
    show St.put st2 (lk st2.s a) xs K2 = _
    rw [e]
    rcases hp with h | h <;> rw [h] <;> rfl
  rw [put st rfl] at he
  obtain ⟨h', hw, he⟩ := Option.bind_eq_some_iff.1 he
  refine ⟨xs, h', hw, he, fun st2 h2 hs hw2 R2 K2 => ?_⟩
  have e2 : lk st2.s a = lk st.s a := by
    rcases hs _ ha0 with h | h
    · exact absurd h hnb
    · exact h.symm
  unfold evOp
  simp only [ho, S.le_v (hs x hx0) hx]
  refine (hc R2 _).trans ?_
  rw [put st2 e2, hw2, Option.bind_some]

theorem swapStore {o p : Oper} {st st1 st2 : St} (h1 : stp E ops o st = some st1) (h2 : stp E ops p st1 = some st2) (hlp : LpOk E st) (ha : o.apart ops p = true) {a b : Nat} (hoa : stAddr o = some a) (hpb : stAddr p = some b) (hsep : sepS (lk st.s a) (lk st.s b) = some ()) :
    ∃ sJ sF, stp E ops p st = some sJ ∧ stp E ops o sJ = some sF ∧ St.le st2 sF ∧ LpOk E sJ := by
  obtain ⟨a1, a2, a3⟩ := Oper.apart_spec ha
  obtain ⟨i, j, hi, hj, hij⟩ := sepS_spec hsep
  obtain ⟨v, off, hpa⟩ := ptrOf_inv hi
  obtain ⟨v', off', hpb'⟩ := ptrOf_inv hj
  have gd : ∀ {o : Oper} {a : Nat}, stAddr o = some a → o.guard = none ∧ a ∈ o.looksAt ops := by
    intro o a h
    unfold stAddr at h
    split at h
    · rename_i t a' x ho hg
      cases h
      exact ⟨hg, List.mem_append_left _ (List.mem_filterMap.2 ⟨.tmp a, by simp [ho, Op.operands], rfl⟩)⟩
    · cases h
  obtain ⟨go, ao⟩ := gd hoa
  obtain ⟨gp, bp⟩ := gd hpb
  have so : ∀ s, stp E ops o s = evOp E o s some := fun s => by simp only [stp, wantS, go]
  have sp : ∀ s, stp E ops p s = evOp E p s some := fun s => by simp only [stp, wantS, gp]
  rw [so] at h1
  rw [sp] at h2
  obtain ⟨xs, h', w1, e1, k1⟩ := store_ev hoa hpa h1
  obtain ⟨i1, i2⟩ := fin_out e1
  cases i1
  have hpb1 : lk (outS E o st .bad st.l h').s b = lk st.s b := lk_out b fun e => a1 b e bp
  obtain ⟨ys, g', w2, e2, k2⟩ := store_ev hpb (by rw [hpb1]; exact hpb') h2
  obtain ⟨j1, j2⟩ := fin_out e2
  cases j1
  rw [out_h] at w2
  obtain ⟨h1', q1, q2⟩ := wr_swap hij w1 w2
  have t1 := k2 st _ (opnds_le (ops := ops) fun t ht => by rw [lk_out t fun e => a1 t e ht]; exact .inr rfl) q1 St some
  rw [j2 st St some .bad st.l h1'] at t1
  have t2 := k1 (outS E p st .bad st.l h1') _ (opnds_le (ops := ops) fun t ht => by rw [lk_out t fun e => a3 t e ht]; exact .inr rfl) (by rw [out_h]; exact q2) St some
  rw [i2 _ St some .bad _ _] at t2
  refine ⟨_, _, (sp st).trans t1, (so _).trans t2, ⟨fun i => ?_, fun t => ?_, ?_⟩, hlp.out _ _ _⟩
  · by_cases hp : p.dst = some i
    · have ho : o.dst ≠ some i := fun e => a2 i e hp
      rw [lk_out (o := o) i ho]
      unfold outS
      rw [hp]
      show S.le (lk ((i, fixS E i .bad) :: _) i) (lk ((i, fixS E i .bad) :: _) i)
      rw [lk_cons, lk_cons, if_pos rfl, if_pos rfl]
      exact .inr rfl
    · rw [lk_out (o := p) i hp]
      by_cases ho : o.dst = some i
      · unfold outS
        rw [ho]
        show S.le (lk ((i, fixS E i .bad) :: _) i) (lk ((i, fixS E i .bad) :: _) i)
        rw [lk_cons, lk_cons, if_pos rfl, if_pos rfl]
        exact .inr rfl
      · rw [lk_out i ho, lk_out i ho, lk_out i hp]
        exact .inr rfl
  · rw [out_l, out_l, out_l, out_l]
  · rw [out_h, out_h]

theorem swap (hE : Good E) {o p : Oper} {st st1 st2 : St} (h1 : stp E ops o st = some st1) (h2 : stp E ops p st1 = some st2) (hlp : LpOk E st) (hi : indep E ops o p = true) :
    ∃ sJ sF, stp E ops p st = some sJ ∧ stp E ops o sJ = some sF ∧ St.le st2 sF ∧ LpOk E sJ := by
  unfold indep at hi
  simp only [Bool.and_eq_true, Bool.or_eq_true] at hi
  rcases hi.2 with (hi2 | hfl) | (hlg | hlm)
  case inl.inr => exact swapFill h1 h2 hlp hi.1 hfl
  case inr.inl => exact swapGrow hE h1 h2 hlp hi.1 hlg.1 hlg.2
  case inr.inr => exact swapEntry h1 h2 hlp hi.1 hlm
  obtain ⟨a1, a2, a3⟩ := Oper.apart_spec hi.1
  obtain ⟨b1, b2⟩ := keysApart_spec hi2
  obtain ⟨x, l, h, rfl, hs⟩ := stp_shape hlp h1
  obtain ⟨y, m, g, rfl, hs'⟩ := stp_shape (hlp.out _ _ _) h2
  obtain ⟨_, _, _, _, hm0, _⟩ := hs st ((St.le_refl st).alikeG o)
  obtain ⟨y2, m2, g2, c1, c2, c3⟩ := hs' st ⟨fun t ht => by rw [lk_out t fun e => a1 t e ht]; exact .inr rfl, fun b hb => by
    rw [out_h]
    rcases hm0.h1 with e | ⟨e, _⟩
    · exact absurd hb (b1 none b e)
    · exact e.symm, fun t b hb => by
    rw [out_l]
    rcases hm0.l1 t with e | ⟨e, _⟩
    · exact absurd hb (b1 (some t) b e)
    · exact e.symm⟩
  obtain ⟨x2, l2, h2', d1, d2, d3⟩ := hs (outS E p st y2 m2 g2) ⟨fun t ht => by rw [lk_out t fun e => a3 t e ht]; exact .inr rfl, fun b hb => by
    rw [out_h]
    rcases c2.h1 with e | ⟨_, e⟩
    · exact absurd hb (b2 none b e)
    · exact e, fun t b hb => by
    rw [out_l]
    rcases c2.l1 t with e | ⟨_, e⟩
    · exact absurd hb (b2 (some t) b e)
    · exact e⟩
  refine ⟨_, _, c3, d3, ⟨fun i => ?_, fun t => ?_, ?_⟩, hlp.out _ _ _⟩
  · by_cases hp : p.dst = some i
    · have ho : o.dst ≠ some i := fun e => a2 i e hp
      rw [lk_out (o := o) i ho]
      unfold outS
      rw [hp]
      show S.le (lk ((i, fixS E i y) :: _) i) (lk ((i, fixS E i y2) :: _) i)
      rw [lk_cons, lk_cons, if_pos rfl, if_pos rfl]
      exact fixS_le c1
    · rw [lk_out (o := p) i hp]
      by_cases ho : o.dst = some i
      · unfold outS
        rw [ho]
        show S.le (lk ((i, fixS E i x) :: _) i) (lk ((i, fixS E i x2) :: _) i)
        rw [lk_cons, lk_cons, if_pos rfl, if_pos rfl]
        exact fixS_le d1
      · rw [lk_out i ho, lk_out i ho, lk_out i hp]
        exact .inr rfl
  · rw [out_l, out_l]
    rcases c2.l1 t with e | ⟨e, e'⟩
    · rcases d2.l1 t with f | ⟨f, f'⟩
      · exact absurd f (b2 (some t) true e)
      · rw [f', out_l]; exact c2.le t e
    · rw [out_l] at e
      rcases d2.l1 t with f | ⟨f, f'⟩
      · rw [d2.le t f, e]
      · rw [f', out_l, e', e, f]
  · rw [out_h, out_h]
    rcases c2.h1 with e | ⟨e, e'⟩
    · rcases d2.h1 with f | ⟨f, f'⟩
      · exact absurd f (b2 none true e)
      · rw [f', out_h]; exact c2.he e
    · rw [out_h] at e
      rcases d2.h1 with f | ⟨f, f'⟩
      · rw [d2.he f, e]
      · rw [f', out_h, e', e, f]

def ldAddr (E : Env) (o : Oper) : Option Nat :=
  match o.op, o.guard with
  | .load _ (.tmp a), none => match rlOf E o with
    | false => some a
    | true => none
  | _, _ => none

def ownArg (E : Env) (o : Oper) : Option Nat :=
  match o.op, o.guard with
  | .call c, none => match c.callee with
    | .value (.func f) => match E.cal f with
      | some (.own _) => match fzOf E o, c.args.toList with
        | false, .tmp b :: _ => some b
        | _, _ => none
      | _ => none
    | _ => none
  | _, _ => none

theorem load_same {R : Type} {o : Oper} {st : St} {K : St → Option R} {r : R} {a i v off : Nat} (hd : ldAddr E o = some a) (hp : lk st.s a = .p (.ptr i v off) ∨ lk st.s a = .v (.ptr i v off)) (he : evOp E o st K = some r) :
    i < st.h.length ∧ ∃ x, fin E o st K x st.l st.h = some r ∧ ∀ st2 : St, lk st2.s a = lk st.s a → st2.h[i]? = st.h[i]? →
      ∀ (R2 : Type) (K2 : St → Option R2), evOp E o st2 K2 = fin E o st2 K2 x st2.l st2.h := by
  unfold ldAddr at hd
  split at hd
  case h_2 => cases hd
  rename_i t a' ho hg
  split at hd
  case h_2 => cases hd
  rename_i hrl
  cases hd
  have hget : ∀ st2 : St, st2.h[i]? = st.h[i]? → st2.get (lk st.s a) = st.get (lk st.s a) := fun st2 hh => by
    funext j
    rcases hp with h | h <;> rw [h] <;> simp only [St.get, rd, hh]
  have hgetN : ∀ st2 : St, st2.h[i]? = st.h[i]? → ∀ n, st2.getN (lk st.s a) n = st.getN (lk st.s a) n := fun st2 hh n => by
    rcases hp with h | h <;> rw [h] <;> simp only [St.getN, rdN, hh]
  have hlt : ∀ {j : Nat} {u : V}, st.get (lk st.s a) j = some u → i < st.h.length := fun {j u} hu => by
    rcases Nat.lt_or_ge i st.h.length with h | h
    · exact h
    · have e0 : st.h[i]? = none := List.getElem?_eq_none h
      rcases hp with h | h <;> rw [h] at hu <;> simp only [St.get, rd, e0] at hu <;> cases hu
  have hltN : ∀ {n : Nat} {u : List V}, st.getN (lk st.s a) n = some u → i < st.h.length := fun {n u} hu => by
    rcases Nat.lt_or_ge i st.h.length with h | h
    · exact h
    · have e0 : st.h[i]? = none := List.getElem?_eq_none h
      rcases hp with h | h <;> rw [h] at hu <;> simp only [St.getN, rdN, e0] at hu <;> cases hu
  unfold evOp at he
  simp only [ho, hrl] at he
  split at he
  · rename_i l hl
    obtain ⟨v0, h0, _⟩ := dest_inv he
    obtain ⟨v, he, hv⟩ := dest_thru _ _ _ _ _ he
    refine ⟨hlt h0, _, he, fun st2 e hh R2 K2 => ?_⟩
    unfold evOp
    simp only [ho, hrl, hl]
    rw [show st2.opnd (.tmp a) = lk st.s a from e, hget st2 hh]
    exact hv R2 _
  · rename_i ls hl
    have hi0 : i < st.h.length := by
      obtain ⟨vs, h1, h2, _⟩ := rdLs_inv he
      obtain ⟨_, _, c2⟩ := (tyOf_cases E.P 2 t).2.1 ls hl
      cases vs with
      | nil => simp at h1; omega
      | cons v vs => exact hlt (h2 0 v rfl)
    obtain ⟨v, he, hv⟩ := rdLs_thru _ _ _ _ _ _ he
    refine ⟨hi0, _, he, fun st2 e hh R2 K2 => ?_⟩
    unfold evOp
    simp only [ho, hrl, hl]
    rw [show st2.opnd (.tmp a) = lk st.s a from e, hget st2 hh]
    exact hv R2 _
  · rename_i n hl
    obtain ⟨cs, hc, he⟩ := Option.bind_eq_some_iff.1 he
    refine ⟨hltN hc, _, he, fun st2 e hh R2 K2 => ?_⟩
    unfold evOp
    simp only [ho, hrl, hl]
    rw [show st2.opnd (.tmp a) = lk st.s a from e, hgetN st2 hh]
    rw [show st.getN (lk st.s a) n = some cs from hc, Option.bind_some]
    rfl
  · cases he

theorem own_ev (hE : Good E) {R : Type} {o : Oper} {st : St} {K : St → Option R} {r : R} {b j : Nat} (hd : ownArg E o = some b) (hp : ptrOf (lk st.s b) = some j) (he : evOp E o st K = some r) :
    ∃ (v : V) (h' : H), (∀ i, i < st.h.length → i ≠ j → h'[i]? = st.h[i]?) ∧ fin E o st K (.v v) st.l h' = some r ∧
      ∀ st2 : St, (∀ x ∈ o.op.operands, S.le (st.opnd x) (st2.opnd x)) → st2.h = st.h → ∀ (R2 : Type) (K2 : St → Option R2), evOp E o st2 K2 = fin E o st2 K2 (.v v) st2.l h' := by
  unfold ownArg at hd
  split at hd
  case h_2 => cases hd
  rename_i c ho hg
  split at hd
  case h_2 => cases hd
  rename_i f hc
  split at hd
  case h_2 => cases hd
  rename_i F hF
  split at hd
  case h_2 => cases hd
  rename_i b' rest hfz hal
  cases hd
  have hargs : ∀ x ∈ c.args.toList, x ∈ o.op.operands := fun x hx => by
    simp only [ho, Op.operands, Call.operands, Array.mem_append]; exact .inr (by simpa using hx)
  unfold evOp at he
  simp only [ho, hc] at he
  obtain ⟨vs, he, hvs, hv⟩ := argsK_thru _ _ _ _ _ he
  unfold callK at he
  simp only [hF, hfz] at he
  obtain ⟨q, h1, he⟩ := Option.bind_eq_some_iff.1 he
  obtain ⟨u, he, hu⟩ := tyDest_thru _ _ _ _ _ he
  obtain ⟨_, hgr⟩ := hE.cal f _ hF vs st.h q h1
  refine ⟨u, (F.out q).2, fun i hi hij => hgr i hi fun e => hij ?_, he, fun st2 hs hh R2 K2 => ?_⟩
  · cases vs with
    | nil => cases e
    | cons v0 vs =>
      have h0 := hvs 0 (.tmp b) v0 (by rw [hal]; rfl) rfl
      have h0' : lk st.s b = .v v0 ∨ lk st.s b = .p v0 := h0
      simp only [List.head?_cons, Option.bind_some] at e
      cases v0 <;> simp only [ptrId] at e <;> cases e
      rcases h0' with h0' | h0' <;> rw [h0'] at hp <;> simp only [ptrOf, Option.some.injEq] at hp <;> exact hp
  · unfold evOp
    simp only [ho, hc]
    rw [hv st2 (fun x hx => hs x (hargs x hx)) R2 _]
    unfold callK
    simp only [hF, hfz, hh, h1, Option.bind_some]
    exact hu R2 _

theorem swapOwn (hE : Good E) {o p : Oper} {st st1 st2 : St} (h1 : stp E ops o st = some st1) (h2 : stp E ops p st1 = some st2) (hlp : LpOk E st) (ha : o.apart ops p = true) {a b : Nat} (hl : ldAddr E o = some a) (hg : ownArg E p = some b) (hsep : sepS (lk st.s a) (lk st.s b) = some ()) :
    ∃ sJ sF, stp E ops p st = some sJ ∧ stp E ops o sJ = some sF ∧ St.le st2 sF ∧ LpOk E sJ := by
  obtain ⟨a1, a2, a3⟩ := Oper.apart_spec ha
  obtain ⟨i, j, hi, hj, hij⟩ := sepS_spec hsep
  obtain ⟨v, off, hpa⟩ := ptrOf_inv hi
  have go : o.guard = none ∧ a ∈ o.looksAt ops := by
    unfold ldAddr at hl
    split at hl
    · rename_i t a' ho hg'
      split at hl
      · cases hl
        exact ⟨hg', List.mem_append_left _ (List.mem_filterMap.2 ⟨.tmp a, by simp [ho, Op.operands], rfl⟩)⟩
      · cases hl
    · cases hl
  have gp : p.guard = none ∧ b ∈ p.looksAt ops := by
    unfold ownArg at hg
    split at hg
    case h_2 => cases hg
    rename_i c ho hgd
    split at hg
    case h_2 => cases hg
    rename_i f hc
    split at hg
    case h_2 => cases hg
    split at hg
    case h_2 => cases hg
    rename_i b' rest hfz hal
    cases hg
    refine ⟨hgd, List.mem_append_left _ (List.mem_filterMap.2 ⟨.tmp b, ?_, rfl⟩)⟩
    have : Operand.tmp b ∈ c.args.toList := by rw [hal]; exact List.mem_cons_self ..
    simp only [ho, Op.operands, Call.operands]
    simp only [Array.toList_append, List.mem_append]
    exact .inr this
  have so : ∀ s, stp E ops o s = evOp E o s some := fun s => by simp only [stp, wantS, go.1]
  have sp : ∀ s, stp E ops p s = evOp E p s some := fun s => by simp only [stp, wantS, gp.1]
  rw [so] at h1
  rw [sp] at h2
  obtain ⟨hil, x, e1, k1⟩ := load_same hl hpa h1
  obtain ⟨i1, i2⟩ := fin_out e1
  cases i1
  have hjb : ptrOf (lk (outS E o st x st.l st.h).s b) = some j := by rw [lk_out b fun e => a1 b e gp.2]; exact hj
  obtain ⟨u, h', hgr, e2, k2⟩ := own_ev hE hg hjb h2
  obtain ⟨j1, j2⟩ := fin_out e2
  cases j1
  rw [out_h] at hgr
  have hi' : h'[i]? = st.h[i]? := hgr i hil hij
  have t1 := k2 st (opnds_le (ops := ops) fun t ht => by rw [lk_out t fun e => a1 t e ht]; exact .inr rfl) (by rw [out_h]) St some
  rw [j2 st St some (.v u) st.l h'] at t1
  have t2 := k1 (outS E p st (.v u) st.l h') (by rw [lk_out a fun e => a3 a e go.2]) (by rw [out_h]; exact hi') St some
  rw [i2 _ St some x _ _] at t2
  refine ⟨_, _, (sp st).trans t1, (so _).trans t2, ⟨fun i => ?_, fun t => ?_, ?_⟩, hlp.out _ _ _⟩
  · by_cases hp : p.dst = some i
    · have ho : o.dst ≠ some i := fun e => a2 i e hp
      rw [lk_out (o := o) i ho]
      unfold outS
      rw [hp]
      show S.le (lk ((i, fixS E i (.v u)) :: _) i) (lk ((i, fixS E i (.v u)) :: _) i)
      rw [lk_cons, lk_cons, if_pos rfl, if_pos rfl]
      exact .inr rfl
    · rw [lk_out (o := p) i hp]
      by_cases ho : o.dst = some i
      · unfold outS
        rw [ho]
        show S.le (lk ((i, fixS E i x) :: _) i) (lk ((i, fixS E i x) :: _) i)
        rw [lk_cons, lk_cons, if_pos rfl, if_pos rfl]
        exact .inr rfl
      · rw [lk_out i ho, lk_out i ho, lk_out i hp]
        exact .inr rfl
  · rw [out_l, out_l, out_l, out_l]
  · rw [out_h, out_h, out_h]

def DynAt (E : Env) (ops : Array Oper) (p o : Oper) (l : List Oper) (sf : St) : Prop :=
  p.apart ops o = true ∧ ∃ a b, (stAddr p = some a ∧ stAddr o = some b ∨ ldAddr E p = some a ∧ ownArg E o = some b) ∧ (∀ q ∈ l, q.dst ≠ some a ∧ q.dst ≠ some b) ∧ sepS (lk sf.s a) (lk sf.s b) = some ()

theorem moveFront (hE : Good E) {o : Oper} {l2 : List Oper} : ∀ (l1 : List Oper) {st st' : St}, flat E ops (l1 ++ o :: l2) st = some st' → LpOk E st → (∀ x p y, l1 = x ++ p :: y → indep E ops p o = true ∨ DynAt E ops p o (p :: (y ++ o :: l2)) st') →
    ∃ sJ sF, stp E ops o st = some sJ ∧ flat E ops (l1 ++ l2) sJ = some sF ∧ St.le st' sF ∧ LpOk E sJ
  | [], st, st', h, hlp, _ => by
    simp only [List.nil_append, flat] at h
    obtain ⟨st1, h1, h2⟩ := Option.bind_eq_some_iff.1 h
    obtain ⟨x, l, hh, rfl, _⟩ := stp_shape hlp h1
    exact ⟨_, st', h1, h2, St.le_refl _, hlp.out _ _ _⟩
  | p :: l1, st, st', h, hlp, hi => by
    have hall := h
    simp only [List.cons_append, flat] at h
    obtain ⟨st1, h1, h2⟩ := Option.bind_eq_some_iff.1 h
    have hlp1 : LpOk E st1 := by
      obtain ⟨x, l, hh, rfl, _⟩ := stp_shape hlp h1
      exact hlp.out _ _ _
    obtain ⟨sJ, sF, k1, k2, k3, k4⟩ := moveFront hE l1 h2 hlp1 fun x q y e => hi (p :: x) q y (by rw [e]; rfl)
    obtain ⟨sJ', s2, m1, m2, m3, m4⟩ : ∃ sJ' s2, stp E ops o st = some sJ' ∧ stp E ops p sJ' = some s2 ∧ St.le sJ s2 ∧ LpOk E sJ' := by
      rcases hi [] p l1 rfl with hp | ⟨hap, a, b, hab, hd, hs⟩
      · exact swap hE h1 k1 hlp hp
      · have hk := (flat_kept _ hall hlp).1
        rw [hk a fun q hq => (hd q hq).1, hk b fun q hq => (hd q hq).2] at hs
        rcases hab with ⟨ha, hb⟩ | ⟨ha, hb⟩
        · exact swapStore h1 k1 hlp hap ha hb hs
        · exact swapOwn hE h1 k1 hlp hap ha hb hs
    obtain ⟨sF', n1, n2⟩ := flat_mono (l1 ++ l2) k2 k4 m3
    exact ⟨sJ', sF', m1, by simp only [List.cons_append, flat, m2, Option.bind_some, n1], St.le_trans k3 n2, m4⟩

end
end
end Go.L

namespace Go.L
noncomputable section

section
variable {E : Env} {ops : Array Oper}

theorem slot_want {o : Oper} {st : St} {j cj : Nat} {want b : Bool} (hg : o.guard = some (j, want)) (hcj : dstOf ops j = some cj) (hb : lk st.s cj = .v (.bool b)) :
    wantS ops o st = some (b == want) := by
  unfold wantS
  simp only [hg, hcj, hb]

theorem slot_want_un {o : Oper} {st : St} {j cj : Nat} {want : Bool} (hg : o.guard = some (j, want)) (hcj : dstOf ops j = some cj) (hb : lk st.s cj = .un) :
    wantS ops o st = some false := by
  unfold wantS
  simp only [hg, hcj, hb]

theorem evOps_flat : ∀ (n : Nat) (asm : List Nat) (l : List Oper) {R : Type} {st : St} {K : St → Option R} {r : R}, evOps E ops n asm l st K = some r → LpOk E st →
    ∃ st' sf, flat E ops l st = some sf ∧ K st' = some r ∧ St.le st' sf ∧ LpOk E st' := by
  intro n
  induction n with
  | zero =>
    intro asm l R st K r he hlp
    cases l with
    | nil =>
      simp only [evOps] at he
      exact ⟨st, st, rfl, he, St.le_refl _, hlp⟩
    | cons o l => simp [evOps] at he
  | succ n ih =>
    intro asm l R st K r he hlp
    cases l with
    | nil =>
      simp only [evOps] at he
      exact ⟨st, st, rfl, he, St.le_refl _, hlp⟩
    | cons o rest =>
      have goon : (evOp E o st fun st => evOps E ops n asm rest st K) = some r → wantS ops o st = some true →
          ∃ st' sf, flat E ops (o :: rest) st = some sf ∧ K st' = some r ∧ St.le st' sf ∧ LpOk E st' := by
        intro he hw
        obtain ⟨x, l, h, hf, hs⟩ := evOp_shape hlp he
        obtain ⟨e1, e2⟩ := fin_out hf
        obtain ⟨st', sf, k1, k2, k3, k4⟩ := ih asm rest e1 (hlp.out _ _ _)
        obtain ⟨x2, l2, h2, m1, m2, m3⟩ := hs st ((St.le_refl st).alikeG (ops := ops) o).alike
        obtain ⟨sf', n1, n2⟩ := flat_mono rest k1 (hlp.out _ _ _) (out_le (St.le_refl st) m1 m2)
        refine ⟨st', sf', ?_, k2, St.le_trans k3 n2, k4⟩
        have : stp E ops o st = some (outS E o st x2 l2 h2) := by
          unfold stp
          rw [hw]
          exact (m3 St some).trans (e2 st St some x2 l2 h2)
        simp only [flat, this, Option.bind_some, n1]
      have skip : fin E o st (fun st => evOps E ops n asm rest st K) .un st.l st.h = some r → wantS ops o st = some false →
          ∃ st' sf, flat E ops (o :: rest) st = some sf ∧ K st' = some r ∧ St.le st' sf ∧ LpOk E st' := by
        intro he hw
        obtain ⟨e1, e2⟩ := fin_out he
        obtain ⟨st', sf, k1, k2, k3, k4⟩ := ih asm rest e1 (hlp.out _ _ _)
        refine ⟨st', sf, ?_, k2, k3, k4⟩
        have : stp E ops o st = some (outS E o st .un st.l st.h) := by
          unfold stp
          rw [hw]
          exact e2 st St some _ _ _
        simp only [flat, this, Option.bind_some, k1]
      simp only [evOps] at he
      split at he
      · rename_i hg
        exact goon he (by simp [wantS, hg])
      · rename_i j want hg
        split at he
        · cases he
        · rename_i cj hcj
          split at he
          · split at he
            · rename_i hl
              exact goon he (slot_want hg hcj hl)
            · rename_i hl
              exact goon he (slot_want hg hcj hl)
            · rename_i hl
              exact skip he (slot_want hg hcj hl)
            · rename_i hl
              exact skip he (slot_want hg hcj hl)
            · rename_i hl
              exact skip he (slot_want_un hg hcj hl)
            · cases he
          · split at he
            · rename_i b hb
              split at he
              · rename_i p rest2 hdw
                split at he
                · cases he
                · rename_i d hd
                  split at he
                  · cases he
                  · rename_i hall
                    rw [List.all_eq_true] at hall
                    obtain ⟨⟨rb, h'⟩, hin, he⟩ := Option.bind_eq_some_iff.1 he
                    have hsplit : o :: rest = ((o :: rest).takeWhile (inGroup j) ++ [p]) ++ rest2 := by
                      rw [List.append_assoc, List.singleton_append, ← hdw, List.takeWhile_append_dropWhile]
                    generalize hinner : (o :: rest).takeWhile (inGroup j) = inner at *
                    rw [hsplit, flat_append]
                    have hs0 : ∀ i, lk ((cj, S.v (.bool b)) :: st.s) i = lk st.s i := by
                      intro i
                      rw [lk_cons]
                      by_cases h : cj = i
                      · subst h; rw [if_pos rfl, hb]
                      · rw [if_neg h]
                    have hlp1 : LpOk E ⟨(cj, .v (.bool b)) :: st.s, st.l, st.h⟩ := fun i => by
                      show lpOk E i (lk ((cj, S.v (.bool b)) :: st.s) i) = true
                      rw [hs0 i]; exact hlp i
                    have hin' : evOps E ops n (j :: asm) (inner ++ [p]) ⟨(cj, .v (.bool b)) :: st.s, st.l, st.h⟩ (groupFin d) = some (rb, h') := by
                      cases b
                      · rw [if_neg (by simp)] at hin; exact hin
                      · rw [if_pos rfl] at hin; exact hin
                    obtain ⟨st', sf, k1, k2, k3, k4⟩ := ih _ _ hin' hlp1
                    obtain ⟨sf1, m1, m2⟩ := flat_mono (inner ++ [p]) k1 hlp1 (st2 := st) ⟨fun i => .inr (hs0 i), fun _ => rfl, rfl⟩
                    have hle := St.le_trans k3 m2
                    unfold groupFin at k2
                    split at k2
                    case h_2 => cases k2
                    rename_i rb' hsd
                    cases k2
                    obtain ⟨f1, f2⟩ := flat_kept (inner ++ [p]) m1 hlp
                    have hle2 : St.le ⟨(d, .v (.bool rb)) :: clr inner st.s, st.l, st'.h⟩ sf1 := by
                      refine ⟨fun i => ?_, fun t => f2 (fun o' ho' => hall o' ho') t, hle.h⟩
                      show S.le (lk ((d, S.v (.bool rb)) :: clr inner st.s) i) _
                      rw [lk_cons]
                      by_cases h : d = i
                      · subst h; rw [if_pos rfl, ← hsd]; exact hle.s d
                      · rw [if_neg h]
                        rcases lk_clr inner st.s i with h1 | ⟨h1, h2⟩
                        · exact .inl h1
                        · right
                          rw [h2, f1 i fun o' ho' => by
                            rcases List.mem_append.1 ho' with ho' | ho'
                            · exact h1 o' ho'
                            · simp only [List.mem_singleton] at ho'; subst ho'; rw [hd]; intro e; cases e; exact h rfl]
                    have hlp2 : LpOk E ⟨(d, .v (.bool rb)) :: clr inner st.s, st.l, st'.h⟩ := by
                      intro i
                      show lpOk E i (lk ((d, S.v (.bool rb)) :: clr inner st.s) i) = true
                      rw [lk_cons]
                      by_cases h : d = i
                      · subst h; rw [if_pos rfl, ← hsd]; exact k4 d
                      · rw [if_neg h]
                        rcases lk_clr inner st.s i with h1 | ⟨h1, h2⟩
                        · rw [h1]; rfl
                        · rw [h2]; exact hlp i
                    obtain ⟨st'', sg, g1, g2, g3, g4⟩ := ih asm rest2 he hlp2
                    obtain ⟨sh, q1, q2⟩ := flat_mono rest2 g1 hlp2 hle2
                    exact ⟨st'', sh, by rw [m1, Option.bind_some, q1], g2, St.le_trans g3 q2, g4⟩
              · cases he
            · rename_i hl
              exact skip he (slot_want_un hg hcj hl)
            · cases he

theorem stp_wp (hE : Good E) {Q : Exit → Act → World → Prop} {o : Oper} {st st1 : St} {ρ : Ren} {lo : Nat → Option Nat} {a : Act} {w : World} {next : Act → World → Prop}
    (h : stp E ops o st = some st1) (hr : RelA E.n ρ lo st a w)
    (hn : ∀ (ρ' : Ren) (lo' : Nat → Option Nat) (a' : Act) (w' : World), RelA E.n ρ' lo' st1 a' w' → Step ρ lo w ρ' lo' w' → next a' w') :
    if Region.wanted o (yielded ops a.tmps) then o.wp E.P a w next Q ∨ (o.asks E.P a w ∧ LetsOut Q) else next (a.put o.dst undef) w := by
  have hwanted : ∀ b, wantS ops o st = some b → Region.wanted o (yielded ops a.tmps) = b := by
    intro b hb
    unfold wantS at hb
    unfold Region.wanted
    cases hg : o.guard with
    | none => rw [hg] at hb; cases hb; rfl
    | some q =>
      obtain ⟨j, want⟩ := q
      rw [hg] at hb
      simp only at hb ⊢
      cases hd : dstOf ops j with
      | none => rw [hd] at hb; cases hb
      | some cj =>
        rw [hd] at hb
        rw [dstOf_yielded hd]
        simp only at hb
        split at hb
        · rename_i c hc
          rw [slot_bool hr hc]
          cases hb
          cases c <;> cases want <;> rfl
        · rename_i hc
          rw [slot_un hr hc]
          cases hb
          rfl
        · cases hb
  have owes : Owes E o st ρ lo w some st1 next := by
    intro st' ρ' lo' a' w' hk _ hr' hs
    cases hk
    exact hn ρ' lo' a' w' hr' hs
  unfold stp at h
  split at h
  · rename_i hw
    rw [hwanted _ hw, if_pos rfl]
    exact .inl (evOp_sound hE h hr owes)
  · rename_i hw
    rw [hwanted _ hw, if_neg (by simp)]
    exact fin_sound h hr (x := .un) (v := undef) rfl (Step.refl _ _ _) owes
  · cases h

theorem flat_sound (hE : Good E) {Q : Exit → Act → World → Prop} {next : Act → World → Prop} : ∀ (l : List Oper) {st sf : St} {ρ : Ren} {lo : Nat → Option Nat} {a : Act} {w : World},
    flat E ops l st = some sf → RelA E.n ρ lo st a w →
    (∀ (ρ' : Ren) (lo' : Nat → Option Nat) (a' : Act) (w' : World), RelA E.n ρ' lo' sf a' w' → Step ρ lo w ρ' lo' w' → next a' w') → wpL E.P ops Q next l a w
  | [], st, sf, ρ, lo, a, w, h, hr, hn => by
    cases h
    exact hn ρ lo a w hr (.refl _ _ _)
  | o :: l, st, sf, ρ, lo, a, w, h, hr, hn => by
    simp only [flat] at h
    obtain ⟨st1, h1, h2⟩ := Option.bind_eq_some_iff.1 h
    exact stp_wp hE h1 hr fun ρ' lo' a' w' hr' hs => flat_sound hE l h2 hr' fun ρ'' lo'' a'' w'' hr'' hs' => hn ρ'' lo'' a'' w'' hr'' (hs.trans hs')

theorem RelA.le {n : Nat} {ρ : Ren} {lo : Nat → Option Nat} {st sf : St} {a : Act} {w : World} (hr : RelA n ρ lo sf a w) (h : St.le st sf) : RelA n ρ lo st a w where
  h := by rw [← h.h]; exact hr.h
  s i := by
    rcases h.s i with e | e
    · rw [e]; trivial
    · rw [e]; exact hr.s i
  l t cs ht := hr.l t cs (by rw [h.l]; exact ht)
  ldom t b hb := by
    obtain ⟨cs, hcs⟩ := hr.ldom t b hb
    exact ⟨cs, by rw [← h.l]; exact hcs⟩
  lout := hr.lout
  linj := hr.linj
  size := hr.size
  defs := hr.defs

def mask (acc : List Nat) (o : Oper) : Nat :=
  o.after.toList.foldl (fun s e => match Region.binds .any e with
    | true => s ||| (2 ^ e.on ||| acc.getD e.on 0)
    | false => s) 0

def masks (l : List Oper) (acc : List Nat) : List Nat := l.foldl (fun acc o => acc ++ [mask acc o]) acc

theorem masks_spec : ∀ (l : List Oper) (acc : List Nat), ∃ t, masks l acc = acc ++ t ∧ t.length = l.length ∧ ∀ (j : Nat) (o : Oper), l[j]? = some o → (masks l acc)[acc.length + j]? = some (mask ((masks l acc).take (acc.length + j)) o)
  | [], acc => ⟨[], by simp [masks], rfl, by simp⟩
  | o :: l, acc => by
    obtain ⟨t, h1, h2, h3⟩ := masks_spec l (acc ++ [mask acc o])
    have e : masks (o :: l) acc = masks l (acc ++ [mask acc o]) := rfl
    rw [e]
    refine ⟨mask acc o :: t, by rw [h1]; simp, by simp [h2], fun j p hj => ?_⟩
    cases j with
    | zero =>
      simp only [List.getElem?_cons_zero, Option.some.injEq] at hj
      subst hj
      rw [h1]
      simp
    | succ j =>
      have := h3 j p (by simpa using hj)
      rw [List.length_append, List.length_singleton] at this
      have e2 : acc.length + 1 + j = acc.length + (j + 1) := by omega
      rwa [e2] at this

theorem mask_bit (acc : List Nat) (i : Nat) : ∀ (l : List Edge) (s : Nat), (l.foldl (fun s e => match Region.binds .any e with
    | true => s ||| (2 ^ e.on ||| acc.getD e.on 0)
    | false => s) s).testBit i = true → s.testBit i = true ∨ ∃ e ∈ l, Region.binds .any e = true ∧ (e.on = i ∨ (acc.getD e.on 0).testBit i = true)
  | [], s, h => .inl h
  | e :: l, s, h => by
    rw [List.foldl_cons] at h
    rcases mask_bit acc i l _ h with h | ⟨e', he, hb⟩
    · split at h
      · rename_i hb
        simp only [Nat.testBit_or, Bool.or_eq_true, Nat.testBit_two_pow, decide_eq_true_eq] at h
        rcases h with h | h | h
        · exact .inl h
        · exact .inr ⟨e, List.mem_cons_self .., hb, .inl h⟩
        · exact .inr ⟨e, List.mem_cons_self .., hb, .inr h⟩
      · exact .inl h
    · exact .inr ⟨e', List.mem_cons_of_mem _ he, hb⟩

def pairOk (E : Env) (ops : Array Oper) (ms : List Nat) (i j : Nat) : Bool :=
  match ops[i]?, ops[j]? with
  | some x, some y => (ms.getD j 0).testBit i || indep E ops x y
  | _, _ => true

def dynOf (E : Env) (ops : Array Oper) (i j : Nat) : Option (Nat × Nat) :=
  match ops[i]?, ops[j]? with
  | some x, some y => match x.apart ops y with
    | true => match stAddr x, stAddr y with
      | some a, some b => some (a, b)
      | _, _ => match ldAddr E x, ownArg E y with
        | some a, some b => some (a, b)
        | _, _ => none
    | false => none
  | _, _ => none

def fills1 (ops : Array Oper) (l : List Nat) (a : Nat) : Bool := l.any fun q => match (ops[q]?).bind (·.dst) with
  | some d => Nat.beq d a
  | none => false

def pairsOk (E : Env) (ops : Array Oper) (ms : List Nat) : List (Nat × List Nat) → List Nat → Bool
  | _, [] => true
  | pre, j :: r => (pre.all fun i => pairOk E ops ms i.1 j || match dynOf E ops i.1 j with
    | some (a, b) => !(fills1 ops i.2 a) && !(fills1 ops i.2 b)
    | none => false) && pairsOk E ops ms ((j, j :: r) :: pre) r

def dynRow (E : Env) (ops : Array Oper) (ms : List Nat) (j : Nat) : List Nat → List (Nat × Nat)
  | [] => []
  | i :: r => match pairOk E ops ms i j with
    | true => dynRow E ops ms j r
    | false => match dynOf E ops i j with
      | some p => p :: dynRow E ops ms j r
      | none => dynRow E ops ms j r

def dynPairs (E : Env) (ops : Array Oper) (ms : List Nat) : List Nat → List Nat → List (Nat × Nat)
  | _, [] => []
  | pre, j :: r => dynRow E ops ms j pre ++ dynPairs E ops ms (j :: pre) r

theorem dynRow_mem {E : Env} {ops : Array Oper} {ms : List Nat} {j : Nat} : ∀ {l : List Nat} {i : Nat} {p : Nat × Nat}, i ∈ l → pairOk E ops ms i j = false → dynOf E ops i j = some p → p ∈ dynRow E ops ms j l
  | k :: r, i, p, hi, h1, h2 => by
    rw [dynRow]
    rcases List.mem_cons.1 hi with rfl | hi
    · rw [h1, h2]; exact List.mem_cons_self ..
    · have ih := dynRow_mem hi h1 h2
      split
      · exact ih
      · split
        · exact List.mem_cons_of_mem _ ih
        · exact ih

def drawOk (E : Env) (ops : Array Oper) (ord : List Nat) : Bool :=
  ((List.range ops.size).all fun j => (match ops[j]? with
    | some o => o.after.toList.all fun e => !(Region.binds .any e) || Nat.ble (e.on + 1) j
    | none => true)) && pairsOk E ops (masks ops.toList []) [] ord

def Owed (E : Env) (ops : Array Oper) (ms : List Nat) (ds : List (Nat × Nat)) (i j : Nat) (behind : List Nat) : Prop :=
  pairOk E ops ms i j = true ∨ ∃ a b, dynOf E ops i j = some (a, b) ∧ (a, b) ∈ ds ∧ fills1 ops behind a = false ∧ fills1 ops behind b = false

theorem pairsOk_spec {E : Env} {ops : Array Oper} {ms : List Nat} : ∀ {pre : List (Nat × List Nat)} {l : List Nat} {ds : List (Nat × Nat)}, pairsOk E ops ms pre l = true → (∀ p ∈ dynPairs E ops ms (pre.map (·.1)) l, p ∈ ds) →
    ∀ {l1 l2 : List Nat} {j : Nat}, l = l1 ++ j :: l2 → (∀ q ∈ pre, Owed E ops ms ds q.1 j q.2) ∧ (∀ x i y, l1 = x ++ i :: y → Owed E ops ms ds i j (i :: (y ++ j :: l2)))
  | pre, [], _, _, _, l1, l2, j, e => by simp at e
  | pre, k :: r, ds, h, hds, l1, l2, j, e => by
    simp only [pairsOk, Bool.and_eq_true, List.all_eq_true] at h
    rw [dynPairs] at hds
    cases l1 with
    | nil =>
      simp only [List.nil_append, List.cons.injEq] at e
      obtain ⟨rfl, rfl⟩ := e
      refine ⟨fun q hq => ?_, fun x i y hx => by simp at hx⟩
      have hp := h.1 q hq
      cases hok : pairOk E ops ms q.1 k with
      | true => exact .inl hok
      | false =>
        rw [hok, Bool.false_or] at hp
        split at hp
        · rename_i a b hd
          simp only [Bool.and_eq_true, Bool.not_eq_true'] at hp
          exact .inr ⟨a, b, hd, hds _ (List.mem_append_left _ (dynRow_mem (List.mem_map.2 ⟨q, hq, rfl⟩) hok hd)), hp.1, hp.2⟩
        · cases hp
    | cons a l1 =>
      simp only [List.cons_append, List.cons.injEq] at e
      obtain ⟨rfl, rfl⟩ := e
      obtain ⟨g1, g2⟩ := pairsOk_spec (ds := ds) h.2 (fun p hp => hds p (List.mem_append_right _ (by simpa using hp))) rfl
      refine ⟨fun q hq => g1 q (List.mem_cons_of_mem _ hq), fun x i y hx => ?_⟩
      cases x with
      | nil =>
        simp only [List.nil_append, List.cons.injEq] at hx
        obtain ⟨rfl, rfl⟩ := hx
        exact g1 _ (List.mem_cons_self ..)
      | cons b x =>
        simp only [List.cons_append, List.cons.injEq] at hx
        obtain ⟨rfl, rfl⟩ := hx
        exact g2 x i y rfl

def sepAll (s : List (Nat × S)) : List (Nat × Nat) → Option Unit
  | [] => some ()
  | p :: r => (sepS (lk s p.1) (lk s p.2)).bind fun _ => sepAll s r

theorem sepAll_mem {s : List (Nat × S)} : ∀ {l : List (Nat × Nat)}, sepAll s l = some () → ∀ p ∈ l, sepS (lk s p.1) (lk s p.2) = some ()
  | q :: r, h, p, hp => by
    obtain ⟨_, h1, h2⟩ := Option.bind_eq_some_iff.1 h
    rcases List.mem_cons.1 hp with rfl | hp
    · exact h1
    · exact sepAll_mem h2 p hp

theorem sepAll_le {s s' : List (Nat × S)} (hs : ∀ i, S.le (lk s i) (lk s' i)) : ∀ {l : List (Nat × Nat)}, sepAll s l = some () → sepAll s' l = some ()
  | [], _ => rfl
  | p :: r, h => by
    obtain ⟨u, h1, h2⟩ := Option.bind_eq_some_iff.1 h
    rw [sepAll, sepS_le h1 (hs _) (hs _), Option.bind_some]
    exact sepAll_le hs h2

structure Whole (ops : Array Oper) (ord : List Nat) : Prop where
  nd : ord.Nodup
  all : ∀ i, i ∈ ord ↔ i < ops.size
  len : ord.length ≤ ops.size

def Closed (ops : Array Oper) (listed : Array Bool) : Prop :=
  ∀ (j : Nat) (o : Oper), listed.getD j false = true → ops[j]? = some o → ∀ e ∈ o.after, Region.binds .any e = true → listed.getD e.on false = true

theorem mask_spec {listed : Array Bool} (hc : Closed ops listed) (hlt : ∀ (j : Nat) (o : Oper), ops[j]? = some o → ∀ e ∈ o.after, Region.binds .any e = true → e.on < j) :
    ∀ (n j i : Nat) (o : Oper), j < n → ((masks ops.toList []).getD j 0).testBit i = true → ops[j]? = some o → (∀ e ∈ o.after, Region.binds .any e = true → listed.getD e.on false = true) →
    listed.getD i false = true
  | 0, _, _, _, h, _, _, _ => by omega
  | n + 1, j, i, o, hjn, h, ho, hall => by
    obtain ⟨t, h1, h2, h3⟩ := masks_spec ops.toList []
    have hm := h3 j o (by simpa using ho)
    simp only [List.length_nil, Nat.zero_add] at hm
    rw [List.getD_eq_getElem?_getD, hm, Option.getD_some] at h
    rcases mask_bit _ i _ _ h with h | ⟨e, he, hb, h⟩
    · simp at h
    · have he' : e ∈ o.after := by simpa using he
      have hl := hall e he' hb
      rcases h with h | h
      · rw [← h]; exact hl
      · have hej := hlt j o ho e he' hb
        have : ((masks ops.toList []).take j).getD e.on 0 = (masks ops.toList []).getD e.on 0 := by
          simp [List.getD_eq_getElem?_getD, hej]
        rw [this] at h
        have hj : j < ops.size := (Array.getElem?_eq_some_iff.1 ho).1
        have hoe : ops[e.on]? = some ops[e.on] := Array.getElem?_eq_getElem (by omega)
        exact mask_spec hc hlt n e.on i _ (by omega) h hoe (hc e.on _ hl hoe)

def rem (ord : List Nat) (listed : Array Bool) : List Nat := ord.filter fun i => !listed.getD i true

theorem filter_split {p : Nat → Bool} {j : Nat} {l1 l2 : List Nat} : ∀ (L : List Nat), L.Nodup → L.filter p = l1 ++ j :: l2 → L.filter (fun i => p i && !(decide (i = j))) = l1 ++ l2 := by
  intro L hnd h
  have h2 : (L.filter p).filter (fun i => !(decide (i = j))) = L.filter (fun i => p i && !(decide (i = j))) := by
    rw [List.filter_filter]
    congr 1
    funext i
    exact Bool.and_comm _ _
  rw [← h2, h, List.filter_append, List.filter_cons]
  have hnd' : (l1 ++ j :: l2).Nodup := by rw [← h]; exact hnd.filter _
  have hnot : ∀ x, x ∈ l1 ++ l2 → x ≠ j := by
    intro x hx e
    subst e
    rw [List.nodup_append] at hnd'
    obtain ⟨_, n2, n3⟩ := hnd'
    rcases List.mem_append.1 hx with hx | hx
    · exact n3 x hx x (List.mem_cons_self ..) rfl
    · exact (List.nodup_cons.1 n2).1 hx
  rw [List.filter_eq_self.2 (fun x hx => by simp [hnot x (List.mem_append_left _ hx)]), if_neg (by simp), List.filter_eq_self.2 (fun x hx => by simp [hnot x (List.mem_append_right _ hx)])]

theorem rem_set {ord : List Nat} (hw : Whole ops ord) {listed : Array Bool} (hsz : listed.size = ops.size) {j : Nat} {l1 l2 : List Nat} (h : rem ord listed = l1 ++ j :: l2) : rem ord (listed.setIfInBounds j true) = l1 ++ l2 := by
  have hf : (rem ord (listed.setIfInBounds j true)) = ord.filter (fun i => !listed.getD i true && !(decide (i = j))) := by
    unfold rem
    apply List.filter_congr
    intro i hi
    by_cases e : i = j
    · subst e
      have hlt : i < listed.size := by rw [hsz]; exact (hw.all i).1 hi
      simp [hlt]
    · rw [getD_set_ne true (Ne.symm e)]
      simp [e]
  rw [hf]
  exact filter_split _ hw.nd h

theorem flatMap_ops_append (l1 l2 : List Nat) : (l1 ++ l2).filterMap (ops[·]?) = l1.filterMap (ops[·]?) ++ l2.filterMap (ops[·]?) := List.filterMap_append

theorem filter_ahead {p : Nat → Bool} {j : Nat} : ∀ {L l1 l2 : List Nat}, L.filter p = l1 ++ j :: l2 → ∃ L1 L2, L = L1 ++ j :: L2 ∧ L1.filter p = l1 ∧ L2.filter p = l2
  | [], l1, l2, h => by simp at h
  | k :: L, l1, l2, h => by
    rw [List.filter_cons] at h
    by_cases hk : p k = true
    · rw [if_pos hk] at h
      cases l1 with
      | nil =>
        simp only [List.nil_append, List.cons.injEq] at h
        exact ⟨[], L, by rw [h.1]; rfl, rfl, h.2⟩
      | cons a l1 =>
        simp only [List.cons_append, List.cons.injEq] at h
        obtain ⟨rfl, h⟩ := h
        obtain ⟨L1, L2, e, h1, h2⟩ := filter_ahead h
        exact ⟨k :: L1, L2, by rw [e]; rfl, by rw [List.filter_cons, if_pos hk, h1], h2⟩
    · rw [if_neg hk] at h
      obtain ⟨L1, L2, e, h1, h2⟩ := filter_ahead h
      exact ⟨k :: L1, L2, by rw [e]; rfl, by rw [List.filter_cons, if_neg hk, h1], h2⟩

theorem least : ∀ (l : List Nat), l ≠ [] → ∃ m ∈ l, ∀ x ∈ l, m ≤ x
  | [], h => absurd rfl h
  | [a], _ => ⟨a, List.mem_cons_self .., fun x hx => by simp at hx; omega⟩
  | a :: b :: l, _ => by
    obtain ⟨m, hm, h⟩ := least (b :: l) (by simp)
    by_cases hle : a ≤ m
    · exact ⟨a, List.mem_cons_self .., fun x hx => by
        rcases List.mem_cons.1 hx with rfl | hx
        · omega
        · have := h x hx; omega⟩
    · exact ⟨m, List.mem_cons_of_mem _ hm, fun x hx => by
        rcases List.mem_cons.1 hx with rfl | hx
        · omega
        · exact h x hx⟩

theorem filterMap_split {α β : Type} {f : α → Option β} : ∀ {l : List α} {X Y : List β}, l.filterMap f = X ++ Y → ∃ x y, l = x ++ y ∧ x.filterMap f = X ∧ y.filterMap f = Y
  | l, [], Y, h => ⟨[], l, rfl, rfl, h⟩
  | [], b :: X, Y, h => by simp at h
  | a :: l, b :: X, Y, h => by
    rw [List.filterMap_cons] at h
    cases hf : f a with
    | none =>
      rw [hf] at h
      obtain ⟨x, y, e, h1, h2⟩ := filterMap_split (X := b :: X) h
      exact ⟨a :: x, y, by rw [e]; rfl, by rw [List.filterMap_cons, hf]; exact h1, h2⟩
    | some c =>
      rw [hf] at h
      simp only [List.cons_append, List.cons.injEq] at h
      obtain ⟨x, y, e, h1, h2⟩ := filterMap_split h.2
      exact ⟨a :: x, y, by rw [e]; rfl, by rw [List.filterMap_cons, hf]; simp [h.1, h1], h2⟩

theorem filterMap_cons_split' {α β : Type} {f : α → Option β} : ∀ {l : List α} {b : β} {Y : List β}, l.filterMap f = b :: Y → ∃ z a y, l = z ++ a :: y ∧ z.filterMap f = [] ∧ f a = some b ∧ y.filterMap f = Y
  | [], b, Y, h => by simp at h
  | a :: l, b, Y, h => by
    rw [List.filterMap_cons] at h
    cases hf : f a with
    | none =>
      rw [hf] at h
      obtain ⟨z, a', y, e, h0, h1, h2⟩ := filterMap_cons_split' h
      exact ⟨a :: z, a', y, by rw [e]; rfl, by rw [List.filterMap_cons, hf]; exact h0, h1, h2⟩
    | some c =>
      rw [hf] at h
      simp only [List.cons.injEq] at h
      exact ⟨[], a, l, rfl, rfl, by rw [hf, h.1], h.2⟩

theorem any_sound (hE : Good E) {ord : List Nat} (hw : Whole ops ord) (hd : drawOk E ops ord = true) {ds : List (Nat × Nat)} (hds : ∀ p ∈ dynPairs E ops (masks ops.toList []) [] ord, p ∈ ds) {Q : Exit → Act → World → Prop} : ∀ (fuel : Nat) (listed : Array Bool) {st sf : St} {ρ : Ren} {lo : Nat → Option Nat} {a : Act} {w : World},
    listed.size = ops.size → (rem ord listed).length ≤ fuel → Closed ops listed → flat E ops ((rem ord listed).filterMap (ops[·]?)) st = some sf → sepAll sf.s ds = some () → LpOk E st → RelA E.n ρ lo st a w →
    (∀ (sF : St) (ρ' : Ren) (lo' : Nat → Option Nat) (a' : Act) (w' : World), St.le sf sF → RelA E.n ρ' lo' sF a' w' → Step ρ lo w ρ' lo' w' → Q .normal a' w') →
    wpAny E.P .any ops Q fuel listed a w := by
  unfold drawOk at hd
  simp only [List.all_eq_true, List.mem_range, Bool.and_eq_true] at hd
  have hdspec : ∀ (j : Nat) (o : Oper), ops[j]? = some o → (∀ e ∈ o.after, Region.binds .any e = true → e.on < j) := by
    intro j o ho e he hb
    have hj : j < ops.size := (Array.getElem?_eq_some_iff.1 ho).1
    have h1 := hd.1 j hj
    simp only [ho, List.all_eq_true, Array.mem_toList_iff, Bool.or_eq_true, Bool.not_eq_true'] at h1
    rcases h1 e he with h | h
    · rw [hb] at h; cases h
    · exact Nat.le_of_ble_eq_true h
  have fin0 : ∀ (listed : Array Bool), listed.size = ops.size → Region.ready .any ops listed = [] → Closed ops listed → rem ord listed = [] := by
    intro listed hsz hr hc
    by_cases hrem : rem ord listed = []
    · exact hrem
    · exfalso
      obtain ⟨j, hjmem, hleast⟩ := least _ hrem
      have hj' := hjmem
      unfold rem at hj'
      rw [List.mem_filter, hw.all] at hj'
      obtain ⟨hj, hun⟩ := hj'
      have ho : ops[j]? = some ops[j] := Array.getElem?_eq_getElem hj
      have : j ∈ Region.ready .any ops listed := by
        rw [mem_ready]
        refine ⟨by simpa using hun, _, ho, fun e he hb => ?_⟩
        have hlt := hdspec j _ ho e he hb
        have hnot : e.on ∉ rem ord listed := fun hm => by have := hleast _ hm; omega
        have hlt' : e.on < listed.size := by omega
        unfold rem at hnot
        rw [List.mem_filter, hw.all] at hnot
        have : listed[e.on] = true := by
          cases hb : listed[e.on] with
          | true => rfl
          | false => exact absurd ⟨by omega, by simp [hlt', hb]⟩ hnot
        simp [hlt', this]
      rw [hr] at this
      cases this
  have done : ∀ (listed : Array Bool) {st sf : St} {ρ : Ren} {lo : Nat → Option Nat} {a : Act} {w : World}, rem ord listed = [] →
      flat E ops ((rem ord listed).filterMap (ops[·]?)) st = some sf → RelA E.n ρ lo st a w →
      (∀ (sF : St) (ρ' : Ren) (lo' : Nat → Option Nat) (a' : Act) (w' : World), St.le sf sF → RelA E.n ρ' lo' sF a' w' → Step ρ lo w ρ' lo' w' → Q .normal a' w') → Q .normal a w := by
    intro listed st sf ρ lo a w hrem hf hr hn
    rw [hrem] at hf
    cases hf
    exact hn st ρ lo a w (St.le_refl _) hr (.refl _ _ _)
  intro fuel
  induction fuel with
  | zero =>
    intro listed st sf ρ lo a w hsz hlen hc hf hsp hlp hr hn
    have hrem : rem ord listed = [] := List.length_eq_zero_iff.1 (Nat.le_zero.1 hlen)
    refine ⟨?_, done listed hrem hf hr hn⟩
    cases hx : Region.ready .any ops listed with
    | nil => rfl
    | cons j L =>
      exfalso
      have : j ∈ Region.ready .any ops listed := by rw [hx]; exact List.mem_cons_self ..
      obtain ⟨h0, o, ho, _⟩ := mem_ready.1 this
      have hj : j < ops.size := (Array.getElem?_eq_some_iff.1 ho).1
      have : j ∈ rem ord listed := by unfold rem; rw [List.mem_filter, hw.all]; exact ⟨hj, by simp only [h0, Bool.not_false]⟩
      rw [hrem] at this; cases this
  | succ fuel ih =>
    intro listed st sf ρ lo a w hsz hlen hc hf hsp hlp hr hn
    refine ⟨fun hx => done listed (fin0 listed hsz hx hc) hf hr hn, fun j hj => ?_⟩
    obtain ⟨h0, o, ho, hall⟩ := mem_ready.1 hj
    have hjs : j < ops.size := (Array.getElem?_eq_some_iff.1 ho).1
    have hjm : j ∈ rem ord listed := by unfold rem; rw [List.mem_filter, hw.all]; exact ⟨hjs, by simp only [h0, Bool.not_false]⟩
    obtain ⟨l1, l2, hsplit⟩ := List.append_of_mem hjm
    have hrem' := rem_set hw hsz hsplit
    obtain ⟨L1, L2, hL, hL1, hL2⟩ := filter_ahead (show ord.filter _ = l1 ++ j :: l2 from hsplit)
    rw [hsplit, flatMap_ops_append, List.filterMap_cons, ho] at hf
    simp only at hf
    have hspec := (pairsOk_spec (ds := ds) hd.2 (by simpa using hds) hL).2
    obtain ⟨sJ, sF, k1, k2, k3, k4⟩ := moveFront hE (l1.filterMap (ops[·]?)) hf hlp (fun X p Y hXY => by
      obtain ⟨x0, y1, hx0, hX, hY⟩ := filterMap_split hXY
      obtain ⟨z, i, y2, hy0, _, hpi, hY2⟩ := filterMap_cons_split' hY
      obtain ⟨x1, hx1⟩ : ∃ x1, x1 = x0 ++ z := ⟨_, rfl⟩
      have hx1 : l1 = x1 ++ i :: y2 := by rw [hx0, hy0, hx1, List.append_assoc]
      obtain ⟨M1, M2, hM, hM1, hM2⟩ := filter_ahead (show L1.filter _ = x1 ++ i :: y2 by rw [hL1, hx1])
      have howed := hspec M1 i M2 hM
      have him : i ∈ rem ord listed := by rw [hsplit, hx1]; simp
      rcases howed with hpair | ⟨da, db, hdyn, hin, hf1, hf2⟩
      · unfold pairOk at hpair
        rw [hpi, ho] at hpair
        simp only [Bool.or_eq_true] at hpair
        rcases hpair with h | h
        case inr => exact .inl h
        · exfalso
          have hl := mask_spec hc hdspec (j + 1) j i o (by omega) h ho hall
          unfold rem at him
          rw [List.mem_filter, hw.all] at him
          have hlt' : i < listed.size := by omega
          have h1 := him.2
          simp [hlt'] at hl h1
          rw [hl] at h1; cases h1
      · refine .inr ?_
        unfold dynOf at hdyn
        rw [hpi, ho] at hdyn
        simp only at hdyn
        split at hdyn
        case h_2 => cases hdyn
        rename_i hap
        have hab : (stAddr p = some da ∧ stAddr o = some db) ∨ (ldAddr E p = some da ∧ ownArg E o = some db) := by
          split at hdyn
          · rename_i a0 b0 ha0 hb0
            cases hdyn
            exact .inl ⟨ha0, hb0⟩
          · split at hdyn
            · rename_i a0 b0 ha0 hb0
              cases hdyn
              exact .inr ⟨ha0, hb0⟩
            · cases hdyn
        refine ⟨hap, _, _, hab, fun q hq => ?_, sepAll_mem hsp _ hin⟩
        have hq' : ∃ k, k ∈ i :: (M2 ++ j :: L2) ∧ ops[k]? = some q := by
          rcases List.mem_cons.1 hq with rfl | hq
          · exact ⟨i, List.mem_cons_self .., hpi⟩
          · rcases List.mem_append.1 hq with hq | hq
            · rw [← hY2] at hq
              obtain ⟨k, hk, e⟩ := List.mem_filterMap.1 hq
              rw [← hM2] at hk
              exact ⟨k, List.mem_cons_of_mem _ (List.mem_append_left _ (List.mem_filter.1 hk).1), e⟩
            · rcases List.mem_cons.1 hq with rfl | hq
              · exact ⟨j, by simp, ho⟩
              · obtain ⟨k, hk, e⟩ := List.mem_filterMap.1 hq
                rw [← hL2] at hk
                exact ⟨k, List.mem_cons_of_mem _ (List.mem_append_right _ (List.mem_cons_of_mem _ (List.mem_filter.1 hk).1)), e⟩
        obtain ⟨k, hk, e⟩ := hq'
        have nofill : ∀ {a : Nat}, fills1 ops (i :: (M2 ++ j :: L2)) a = false → q.dst ≠ some a := fun {a} hf e2 => by
          unfold fills1 at hf
          rw [List.any_eq_false] at hf
          have := hf k hk
          rw [e, Option.bind_some, e2] at this
          simp at this
        exact ⟨nofill hf1, nofill hf2⟩)
    unfold wpOp
    rw [ho]
    simp only
    refine stp_wp hE k1 hr fun ρ' lo' a' w' hr' hs => ?_
    refine ih (listed.setIfInBounds j true) (by simpa using hsz) ?_ ?_ (by rw [hrem', flatMap_ops_append]; exact k2) (sepAll_le k3.s hsp) k4 hr' fun sF' ρ'' lo'' a'' w'' hle hr'' hs' => hn sF' ρ'' lo'' a'' w'' (St.le_trans k3 hle) hr'' (hs.trans hs')
    · rw [hrem']
      rw [hsplit] at hlen
      simp only [List.length_append, List.length_cons] at hlen ⊢
      omega
    · intro i oi hi hoi e he hb
      by_cases hij : i = j
      · subst hij
        rw [ho] at hoi; cases hoi
        exact getD_set_true (hall e he hb)
      · rw [getD_set_ne false (Ne.symm hij)] at hi
        exact getD_set_true (hc i oi hi hoi e he hb)

end
end
end Go.L

namespace Go.L
noncomputable section

theorem LpOk.norm {E : Env} {st : St} (h : LpOk E st) (o : Option (List Nat × List Nat)) : LpOk E (st.norm o) := by
  cases o with
  | none => exact h
  | some p =>
    obtain ⟨ls, ll⟩ := p
    intro i
    show lpOk E i (lk (normS (normL st.l ll) st.s ls) i) = true
    rcases lk_normS (normL st.l ll) st.s ls i with e | e
    · rw [e]; rfl
    · rw [e]
      have := h i
      cases hx : lk st.s i with
      | lp t off =>
        rw [hx] at this
        unfold keepS
        simp only
        split
        · exact this
        · rfl
      | v x => rw [hx] at this; exact this
      | p x => rw [hx] at this; exact this
      | bad => rfl
      | un => rfl

theorem filterMap_some' {α β : Type} {f : α → Option β} {g : α → β} : ∀ (l : List α), (∀ x ∈ l, f x = some (g x)) → l.filterMap f = l.map g
  | [], _ => rfl
  | x :: l, h => by
    rw [List.filterMap_cons, h x (List.mem_cons_self ..), List.map_cons, filterMap_some' l fun y hy => h y (List.mem_cons_of_mem _ hy)]

theorem rem_all {ops : Array Oper} {ord : List Nat} (hw : Whole ops ord) : rem ord (Array.replicate ops.size false) = ord := by
  unfold rem
  refine List.filter_eq_self.2 fun i hi => ?_
  have : i < ops.size := (hw.all i).1 hi
  simp [this]

def earlyOk (E : Env) (acc : List Bool) (o : Oper) : Bool :=
  (match skey E o with
    | none => true
    | some (_, w) => !w) && o.after.toList.all fun e => !(Region.binds .any e) || acc.getD e.on false

def earlies (E : Env) (l : List Oper) (acc : List Bool) : List Bool := l.foldl (fun acc o => acc ++ [earlyOk E acc o]) acc

def early (ops : Array Oper) (es : List Bool) : List Nat :=
  (List.range ops.size).filter (fun i => es.getD i false) ++ (List.range ops.size).filter (fun i => !es.getD i false)

def lateOk (acc : List Bool) (o : Oper) : Bool := (stAddr o).isSome || o.after.toList.any fun e => Region.binds .any e && acc.getD e.on false

def lates (l : List Oper) (acc : List Bool) : List Bool := l.foldl (fun acc o => acc ++ [lateOk acc o]) acc

def isArg (E : Env) (ops : Array Oper) (ms : List Nat) (i : Nat) : Bool := (List.range ops.size).any fun j => match ops[j]? with
  | some o => (ownArg E o).isSome && (ms.getD j 0).testBit i
  | none => false

def argsFirst (E : Env) (ops : Array Oper) : List Nat :=
  (List.range ops.size).filter (isArg E ops (masks ops.toList [])) ++ (List.range ops.size).filter (fun i => !isArg E ops (masks ops.toList []) i)

def storesLast (ls : List Bool) (l : List Nat) : List Nat := l.filter (fun i => !ls.getD i false) ++ l.filter (fun i => ls.getD i false)

theorem halves {α : Type} (p : α → Bool) : ∀ l : List α, (l.filter (fun i => p i)).length + (l.filter (fun i => !p i)).length = l.length
  | [] => rfl
  | x :: l => by
    have := halves p l
    rw [List.filter_cons, List.filter_cons]
    cases p x <;> simp <;> omega

theorem whole_range (ops : Array Oper) : Whole ops (List.range ops.size) := ⟨List.nodup_range, fun i => List.mem_range, by simp⟩

theorem whole_split {ops : Array Oper} {l : List Nat} (w : Whole ops l) (p : Nat → Bool) : Whole ops (l.filter (fun i => !p i) ++ l.filter (fun i => p i)) := by
  refine ⟨List.nodup_append.2 ⟨w.nd.filter _, w.nd.filter _, fun a ha b hb e => ?_⟩, fun i => ?_, ?_⟩
  · subst e
    have h1 := (List.mem_filter.1 ha).2
    have h2 := (List.mem_filter.1 hb).2
    simp only [h2] at h1
    cases h1
  · rw [List.mem_append, List.mem_filter, List.mem_filter, w.all]
    constructor
    · rintro (h | h)
      · exact h.1
      · exact h.1
    · intro h
      cases hb : p i with
      | true => exact .inr ⟨h, rfl⟩
      | false => exact .inl ⟨h, rfl⟩
  · rw [List.length_append]
    have := halves p l
    have := w.len
    omega

theorem whole_early (ops : Array Oper) (es : List Bool) : Whole ops (early ops es) := by
  have h := whole_split (whole_range ops) (fun i => !es.getD i false)
  unfold early
  simpa using h

theorem whole_args (E : Env) (ops : Array Oper) : Whole ops (argsFirst E ops) := by
  have h := whole_split (whole_range ops) (fun i => !isArg E ops (masks ops.toList []) i)
  unfold argsFirst
  simpa using h

def rowD (E : Env) (ops : Array Oper) (ms : List Nat) (j : Nat) : List (Nat × List Nat) → Option (List (Nat × Nat))
  | [] => some []
  | i :: t => match pairOk E ops ms i.1 j with
    | true => rowD E ops ms j t
    | false => match dynOf E ops i.1 j with
      | some p => match !(fills1 ops i.2 p.1) && !(fills1 ops i.2 p.2) with
        | true => (rowD E ops ms j t).bind fun r => some (p :: r)
        | false => none
      | none => none

def pairsD (E : Env) (ops : Array Oper) (ms : List Nat) : List (Nat × List Nat) → List Nat → Option (List (Nat × Nat))
  | _, [] => some []
  | pre, j :: r => (rowD E ops ms j pre).bind fun a => (pairsD E ops ms ((j, j :: r) :: pre) r).bind fun b => some (a ++ b)

theorem rowD_spec {E : Env} {ops : Array Oper} {ms : List Nat} {j : Nat} : ∀ {l : List (Nat × List Nat)} {r : List (Nat × Nat)}, rowD E ops ms j l = some r →
    (l.all fun i => pairOk E ops ms i.1 j || match dynOf E ops i.1 j with
    | some (a, b) => !(fills1 ops i.2 a) && !(fills1 ops i.2 b)
    | none => false) = true ∧ dynRow E ops ms j (l.map (·.1)) = r
  | [], r, h => by cases h; exact ⟨rfl, rfl⟩
  | i :: t, r, h => by
    rw [rowD] at h
    split at h
    · rename_i hp
      obtain ⟨h1, h2⟩ := rowD_spec h
      refine ⟨by rw [List.all_cons, h1, hp]; rfl, ?_⟩
      rw [List.map_cons, dynRow, hp]; exact h2
    · rename_i hp
      split at h
      · rename_i p hd
        split at h
        · rename_i hf
          obtain ⟨q, hq, h⟩ := Option.bind_eq_some_iff.1 h
          cases h
          obtain ⟨h1, h2⟩ := rowD_spec hq
          refine ⟨?_, ?_⟩
          · rw [List.all_cons, h1, hp, hd]
            obtain ⟨a, b⟩ := p
            simp only at hf ⊢
            rw [hf]; rfl
          · rw [List.map_cons, dynRow, hp, hd]; simp only; rw [h2]
        · cases h
      · cases h

theorem pairsD_spec {E : Env} {ops : Array Oper} {ms : List Nat} : ∀ {pre : List (Nat × List Nat)} {l : List Nat} {ds : List (Nat × Nat)}, pairsD E ops ms pre l = some ds → pairsOk E ops ms pre l = true ∧ dynPairs E ops ms (pre.map (·.1)) l = ds
  | pre, [], ds, h => by cases h; exact ⟨rfl, rfl⟩
  | pre, j :: r, ds, h => by
    rw [pairsD] at h
    obtain ⟨a, ha, h⟩ := Option.bind_eq_some_iff.1 h
    obtain ⟨b, hb, h⟩ := Option.bind_eq_some_iff.1 h
    cases h
    obtain ⟨h1, h2⟩ := rowD_spec ha
    obtain ⟨h3, h4⟩ := pairsD_spec hb
    refine ⟨by rw [pairsOk, h3, Bool.and_true]; exact h1, ?_⟩
    rw [dynPairs, h2]
    rw [List.map_cons] at h4
    rw [h4]

def edgesOk (ops : Array Oper) : Bool := (List.range ops.size).all fun j => (match ops[j]? with
    | some o => o.after.toList.all fun e => !(Region.binds .any e) || Nat.ble (e.on + 1) j
    | none => true)

def tryOrd (E : Env) (ops : Array Oper) (ord : List Nat) : Option (List Oper × List (Nat × Nat)) :=
  (pairsD E ops (masks ops.toList []) [] ord).bind fun ds => some (ord.filterMap (ops[·]?), ds)

def planR (E : Env) (ops : Array Oper) (draw : Bool) : Option (List Oper × List (Nat × Nat)) :=
  match draw with
  | false => some (ops.toList, [])
  | true => match E.P.follows .mixedOrders && edgesOk ops with
    | false => none
    | true => match tryOrd E ops (List.range ops.size) with
      | some p => some p
      | none => match tryOrd E ops (early ops (earlies E ops.toList [])) with
        | some p => some p
        | none => match tryOrd E ops (storesLast (lates ops.toList []) (early ops (earlies E ops.toList []))) with
          | some p => some p
          | none => tryOrd E ops (argsFirst E ops)

theorem tryOrd_spec {E : Env} {ops : Array Oper} {ord : List Nat} {l : List Oper} {ds : List (Nat × Nat)} (he : edgesOk ops = true) (h : tryOrd E ops ord = some (l, ds)) : drawOk E ops ord = true ∧ l = ord.filterMap (ops[·]?) ∧ dynPairs E ops (masks ops.toList []) [] ord = ds := by
  unfold tryOrd at h
  obtain ⟨d, hd, h⟩ := Option.bind_eq_some_iff.1 h
  cases h
  obtain ⟨h1, h2⟩ := pairsD_spec hd
  refine ⟨?_, rfl, h2⟩
  unfold drawOk
  rw [h1, Bool.and_true]
  exact he

theorem planR_spec {E : Env} {ops : Array Oper} {draw : Bool} {l : List Oper} {ds : List (Nat × Nat)} (h : planR E ops draw = some (l, ds)) :
    (draw = false ∧ l = ops.toList ∧ ds = []) ∨ (draw = true ∧ E.P.follows .mixedOrders = true ∧ ∃ ord, Whole ops ord ∧ drawOk E ops ord = true ∧ l = ord.filterMap (ops[·]?) ∧ dynPairs E ops (masks ops.toList []) [] ord = ds) := by
  unfold planR at h
  split at h
  · cases h; exact .inl ⟨rfl, rfl, rfl⟩
  · split at h
    · cases h
    · rename_i hb
      simp only [Bool.and_eq_true] at hb
      refine .inr ⟨rfl, hb.1, ?_⟩
      split at h
      · rename_i p hp
        cases h
        obtain ⟨h1, h2, h3⟩ := tryOrd_spec hb.2 hp
        exact ⟨_, whole_range ops, h1, h2, h3⟩
      · split at h
        · rename_i p hp
          cases h
          obtain ⟨h1, h2, h3⟩ := tryOrd_spec hb.2 hp
          exact ⟨_, whole_early ops _, h1, h2, h3⟩
        · split at h
          · rename_i p hp
            cases h
            obtain ⟨h1, h2, h3⟩ := tryOrd_spec hb.2 hp
            exact ⟨_, whole_split (whole_early ops _) _, h1, h2, h3⟩
          · obtain ⟨h1, h2, h3⟩ := tryOrd_spec hb.2 h
            exact ⟨_, whole_args E ops, h1, h2, h3⟩

theorem planR_mem {E : Env} {ops : Array Oper} {draw : Bool} {l : List Oper} {ds : List (Nat × Nat)} (h : planR E ops draw = some (l, ds)) {o : Oper} (ho : o ∈ l) : o ∈ ops.toList := by
  rcases planR_spec h with ⟨_, rfl, _⟩ | ⟨_, _, ord, _, _, rfl, _⟩
  · exact ho
  · obtain ⟨i, _, hi⟩ := List.mem_filterMap.1 ho
    obtain ⟨_, he⟩ := Array.getElem?_eq_some_iff.1 hi
    rw [← he]
    simp

def sepK {R : Type} (s : List (Nat × S)) : List (Nat × Nat) → Option R → Option R
  | [], r => r
  | p :: t, r => (sepS (lk s p.1) (lk s p.2)).bind fun _ => sepK s t r

theorem sepK_eq {R : Type} (s : List (Nat × S)) : ∀ (l : List (Nat × Nat)) (r : Option R), sepK s l r = (sepAll s l).bind fun _ => r
  | [], r => rfl
  | p :: t, r => by
    rw [sepK, sepAll]
    cases sepS (lk s p.1) (lk s p.2) with
    | none => rfl
    | some u => simp only [Option.bind_some]; exact sepK_eq s t r

def xeq : X → X → Bool
  | .normal, .normal => true
  | .exit a, .exit b => Nat.beq a b
  | .ret, .ret => true
  | .goto a, .goto b => Nat.beq a b
  | _, _ => false

def Alt.norm (a : Alt) (st : St) : St := st.norm (some (a.ix, a.lx))
def Alt.enc (a : Alt) (st : St) : Option a.T := encSs a.ks (a.norm st).s (encLl a.ls a.lx (a.norm st).l (some st.h))
def Alt.dec (a : Alt) (t : a.T) : St := ⟨(decSs a.ks a.ix t).1, (decLl a.ls a.lx (decSs a.ks a.ix t).2).1, (decLl a.ls a.lx (decSs a.ks a.ix t).2).2⟩

def encA : (as : List Alt) → X → St → Option (AltT as)
  | [], _, _ => none
  | [a], x, st => match xeq a.x x with
    | true => a.enc st
    | false => none
  | a :: b :: r, x, st => match xeq a.x x with
    | true => (a.enc st).bind fun s => some (.inl s)
    | false => (encA (b :: r) x st).bind fun s => some (.inr s)

def decA : (as : List Alt) → AltT as → {R : Type} → (X → St → Option R) → Option R
  | [], _, _, _ => none
  | [a], s, _, K => K a.x (a.dec s)
  | a :: b :: r, s, _, K => match s with
    | .inl s => K a.x (a.dec s)
    | .inr s => decA (b :: r) s K

def LoopA.next (A : LoopA) (n : Nat) (x : X) (st : St) : Option (AltT A.outs) :=
  match x with
  | .normal => (A.head.enc st).bind (A.L n)
  | x => encA A.outs x st

def LoopA.back (A : LoopA) (l n : Nat) (x : X) (st : St) : Option (AltT A.outs) :=
  match x with
  | .goto i => match Nat.beq i l with
    | true => (A.head.enc st).bind (A.L n)
    | false => encA A.outs (.goto i) st
  | x => encA A.outs x st

def lbKey (l : Nat) : Nat := 1000000 + l

def hnd {R : Type} (E : Env) (N : Nat) (c : Code) (K : X → St → Option R) : Nat → X → St → Option R
  | 0, x, st => match x with
    | .goto _ => none
    | x => K x st
  | d + 1, x, st => match x with
    | .goto l => match findLabel c l with
      | some _ => match E.lp (lbKey l) with
        | some A => (A.head.enc st).bind fun s => (A.L N s).bind fun o => decA A.outs o (hnd E N c K d)
        | none => none
      | none => none
    | x => K x st

def jnOf (E : Env) (c : Operand) (a b : Code) : Option (List Alt) :=
  match c with
  | .tmp t => E.jn (t + 65536 * lid a + 268435456 * lid b)
  | _ => none

def keeps (E : Env) (ops : Array Oper) : Nat := (ops.toList.filter fun o => (fillOf E o).isSome).length

def keepSt (E : Env) (ops : Array Oper) (st : St) : St :=
  match keeps E ops with
  | 0 => st
  | k + 1 => ⟨st.s, st.l, st.h ++ List.replicate (k + 1) .rsv⟩

def ev {R : Type} (E : Env) (N : Nat) : Code → St → (X → St → Option R) → Option R
  | .skip, st, K => K .normal st
  | .region id ops draw, st, K => match E.dd id with
    | true => none
    | false => match planR E ops draw with
      | some (l, ds) => evOps E ops (ops.size + ops.size) [] l (keepSt E ops st) fun st => (sepAll st.s []).bind fun _ => sepK st.s ds (K .normal st)
      | none => none
  | .seq a b, st, K => ev E N a st fun x st => match x with
    | .normal => ev E N b st K
    | x => K x st
  | .cond c a b, st, K => match st.opnd c with
    | .v (.bool t) => match jnOf E c a b with
      | none => if t = true then ev E N a st K else ev E N b st K
      | some as => (if t = true then ev E N a st (encA as) else ev E N b st (encA as)).bind fun s => decA as s K
    | _ => none
  | .block id c, st, K => ev E N c st fun x st => match x with
    | .exit i => match Nat.beq i id with
      | true => K .normal st
      | false => K (.exit i) st
    | x => K x st
  | .loop c, st, K => match E.lp (lid c) with
    | some A => (A.head.enc st).bind fun s => (A.L N s).bind fun o => decA A.outs o K
    | none => none
  | .exit id, st, K => K (.exit id) st
  | .ret, st, K => K .ret st
  | .label _, st, K => K .normal st
  | .goto l, st, K => K (.goto l) st
  | .scope c, st, K => ev E N c st (hnd E N c K 2)
  | _, _, _ => none

def evFT (E : Env) (N : Nat) (fn : Func) (ks rs : List SK) (t : Tup ks H) : Option (Tup rs H) :=
  match fn.body with
  | some c => ev E N c ⟨argSlots 0 (decVs ks t).1, [], (decVs ks t).2⟩ fun x st => match x with
    | .normal | .ret => resVs E st fn.results.toList fun vs => encVs rs vs (some st.h)
    | .exit _ => none
    | .goto _ => none
  | none => none

def mkFun (ks rs : List SK) (F : Tup ks H → Option (Tup rs H)) : Fun := ⟨Tup rs H, fun vs h => (encVs ks vs (some h)).bind F, outR rs⟩
def mkP (ks rs : List SK) (F : Tup ks H → Option (Tup rs H)) : PFun := ⟨Tup rs H, fun vs => (encVs ks vs (some [])).bind F, fun s => (outR rs s).1⟩

theorem ofV_law : ∀ (l : LK) (v : V) (x : l.T), l.ofV v = some x → l.toV x = v
  | .int k, v, x, h => by
    simp only [LK.ofV, asInt] at h
    split at h
    · rename_i k' n e
      cases e
      split at h
      · rename_i e; subst e; cases h; rfl
      · cases h
    · cases h
  | .bool, v, x, h => by
    simp only [LK.ofV, asBool] at h
    split at h
    · rename_i e; cases e; cases h; rfl
    · cases h
  | .str, v, x, h => by
    simp only [LK.ofV, asStr] at h
    split at h
    · rename_i e; cases e; cases h; rfl
    · cases h
  | .float k, v, x, h => by
    simp only [LK.ofV, asFloat] at h
    split at h
    · rename_i e
      cases e
      split at h
      · rename_i e; subst e; cases h; rfl
      · cases h
    · cases h
  | .cplx k, v, x, h => by
    simp only [LK.ofV, asCplx'] at h
    split at h
    · rename_i e
      cases e
      split at h
      · rename_i e; subst e; cases h; rfl
      · cases h
    · cases h
  | .ref, v, x, h => by simp only [LK.ofV] at h; cases h; rfl

theorem encLs_law : ∀ (ls : List LK) (vs : List V) {E : Type} (e : Option E) (t : TupL ls E), encLs ls vs e = some t → ∃ y, e = some y ∧ decLs ls t = (vs, y)
  | [], vs, _, e, t, h => by
    cases vs with
    | nil => exact ⟨t, h, rfl⟩
    | cons v vs => cases h
  | l :: r, vs, _, e, t, h => by
    cases vs with
    | nil => cases h
    | cons v vs =>
      obtain ⟨x, hx, h⟩ := Option.bind_eq_some_iff.1 h
      obtain ⟨y, hy, h⟩ := Option.bind_eq_some_iff.1 h
      have h := Option.some.inj h
      subst h
      obtain ⟨z, hz, hd⟩ := encLs_law r vs e y hy
      exact ⟨z, hz, by simp only [decLs, hd, ofV_law l v x hx]⟩

theorem asCells_inv {v : V} {cs : List V} (h : asCells v = some cs) : v = .agg cs := by
  cases v <;> simp only [asCells] at h <;> first | (cases h; rfl) | cases h

theorem asClo_inv {f : FuncId} {v : V} {cs : List V} (h : asClo f v = some cs) : v = .fn f cs := by
  cases v <;> simp only [asClo] at h <;> try cases h
  split at h
  · rename_i h1
    cases h
    rw [Nat.eq_of_beq_eq_true h1]
  · cases h

theorem encV_law : ∀ (k : SK) (v : V) {E : Type} (e : Option E) (t : k.T E), k.encV v e = some t → ∃ y, e = some y ∧ k.decV t = (v, y) ∧ k.dec t = (.v v, y)
  | .one l, v, E, e, t, h => by
    obtain ⟨x, hx, h⟩ := Option.bind_eq_some_iff.1 h
    obtain ⟨y, hy, h⟩ := Option.bind_eq_some_iff.1 h
    have h := Option.some.inj h
    subst h
    exact ⟨y, hy, by simp only [SK.decV, ofV_law l v x hx], by simp only [SK.dec, ofV_law l v x hx]⟩
  | .agg ls, v, E, e, t, h => by
    obtain ⟨cs, hcs, h⟩ := Option.bind_eq_some_iff.1 h
    cases asCells_inv hcs
    obtain ⟨y, hy, hd⟩ := encLs_law ls cs e t h
    exact ⟨y, hy, by simp only [SK.decV, hd], by simp only [SK.dec, hd]⟩
  | .blk, v, E, e, t, h => by
    obtain ⟨cs, hcs, h⟩ := Option.bind_eq_some_iff.1 h
    obtain ⟨y, hy, h⟩ := Option.bind_eq_some_iff.1 h
    have h := Option.some.inj h
    subst h
    cases asCells_inv hcs
    exact ⟨y, hy, rfl, rfl⟩
  | .clo f ls, v, E, e, t, h => by
    obtain ⟨cs, hcs, h2⟩ := Option.bind_eq_some_iff.1 h
    have h1 := asClo_inv hcs
    subst h1
    obtain ⟨y, hy, hd⟩ := encLs_law ls cs e t h2
    exact ⟨y, hy, by simp only [SK.decV, hd], by simp only [SK.dec, hd]⟩
  | .lp a b, v, E, e, t, h => by cases h

theorem asSv_inv {x : S} {v : V} (h : asSv x = some v) : x = .v v := by
  cases x <;> simp only [asSv] at h <;> first | (cases h; rfl) | cases h

theorem asLp_inv {a b : Nat} {x : S} {u : Unit} (h : asLp a b x = some u) : x = .lp a b := by
  cases x <;> simp only [asLp] at h <;> try cases h
  split at h
  · rename_i h1 h2
    rw [Nat.eq_of_beq_eq_true h1, Nat.eq_of_beq_eq_true h2]
  · cases h

theorem enc_law : ∀ (k : SK) (x : S) {E : Type} (e : Option E) (t : k.T E), k.enc x e = some t → ∃ y, e = some y ∧ k.dec t = (x, y)
  | .lp a b, x, E, e, t, h => by
    obtain ⟨u, hu, h2⟩ := Option.bind_eq_some_iff.1 h
    have h1 := asLp_inv hu
    subst h1
    exact ⟨t, h2, rfl⟩
  | .one l, x, E, e, t, h => by
    obtain ⟨v, hv, h⟩ := Option.bind_eq_some_iff.1 h
    cases asSv_inv hv
    obtain ⟨y, hy, _, hd⟩ := encV_law (.one l) v e t h
    exact ⟨y, hy, hd⟩
  | .agg ls, x, E, e, t, h => by
    obtain ⟨v, hv, h⟩ := Option.bind_eq_some_iff.1 h
    cases asSv_inv hv
    obtain ⟨y, hy, _, hd⟩ := encV_law (.agg ls) v e t h
    exact ⟨y, hy, hd⟩
  | .blk, x, E, e, t, h => by
    obtain ⟨v, hv, h⟩ := Option.bind_eq_some_iff.1 h
    cases asSv_inv hv
    obtain ⟨y, hy, _, hd⟩ := encV_law .blk v e t h
    exact ⟨y, hy, hd⟩
  | .clo f ls, x, E, e, t, h => by
    obtain ⟨v, hv, h⟩ := Option.bind_eq_some_iff.1 h
    cases asSv_inv hv
    obtain ⟨y, hy, _, hd⟩ := encV_law (.clo f ls) v e t h
    exact ⟨y, hy, hd⟩

theorem encSs_law : ∀ (ks : List SK) (ix : List Nat) (xs : List (Nat × S)) {E : Type} (e : Option E) (t : Tup ks E), xs.map (·.1) = ix → encSs ks xs e = some t → ∃ y, e = some y ∧ decSs ks ix t = (xs, y)
  | [], ix, xs, _, e, t, hi, h => by
    cases xs with
    | nil => exact ⟨t, h, rfl⟩
    | cons x xs => cases h
  | k :: r, ix, xs, _, e, t, hi, h => by
    cases xs with
    | nil => cases h
    | cons x xs =>
      obtain ⟨y, hy, hd⟩ := enc_law k _ _ t h
      subst hi
      obtain ⟨z, hz, hd'⟩ := encSs_law r (xs.map (·.1)) xs e y rfl hy
      refine ⟨z, hz, ?_⟩
      simp only [decSs, List.map_cons, List.tail_cons, List.headD_cons, hd, hd']

theorem encVs_law : ∀ (ks : List SK) (xs : List V) {E : Type} (e : Option E) (t : Tup ks E), encVs ks xs e = some t → ∃ y, e = some y ∧ decVs ks t = (xs, y)
  | [], xs, _, e, t, h => by
    cases xs with
    | nil => exact ⟨t, h, rfl⟩
    | cons x xs => cases h
  | k :: r, xs, _, e, t, h => by
    cases xs with
    | nil => cases h
    | cons x xs =>
      obtain ⟨y, hy, hd, _⟩ := encV_law k _ _ t h
      obtain ⟨z, hz, hd'⟩ := encVs_law r xs e y hy
      refine ⟨z, hz, ?_⟩
      simp only [decVs, hd, hd']

theorem encl_law : ∀ (k : LSp) (x : List V) {E : Type} (e : Option E) (t : k.T E), k.enc x e = some t → ∃ y, e = some y ∧ k.dec t = (x, y)
  | .cells ls, x, E, e, t, h => encLs_law ls x e t h
  | .blk, x, E, e, t, h => by
    obtain ⟨y, hy, h⟩ := Option.bind_eq_some_iff.1 h
    have h := Option.some.inj h
    subst h
    exact ⟨y, hy, rfl⟩

theorem encLl_law : ∀ (ks : List LSp) (ix : List Nat) (xs : List (Nat × List V)) {E : Type} (e : Option E) (t : TupV ks E), encLl ks ix xs e = some t → ∃ y, e = some y ∧ decLl ks ix t = (xs, y)
  | [], ix, xs, _, e, t, h => by
    cases xs with
    | nil => exact ⟨t, h, rfl⟩
    | cons x xs => cases h
  | k :: r, ix, xs, _, e, t, h => by
    cases xs with
    | nil => cases h
    | cons x xs =>
      cases ix with
      | nil => cases h
      | cons i ix =>
        unfold encLl at h
        simp only at h
        split at h
        · rename_i hb
          have hi := Nat.eq_of_beq_eq_true hb
          obtain ⟨y, hy, hd⟩ := encl_law k _ _ t h
          obtain ⟨z, hz, hd'⟩ := encLl_law r ix xs e y hy
          refine ⟨z, hz, ?_⟩
          simp only [decLl, List.headD_cons, List.tail_cons, hd, hd', ← hi]
        · cases h

theorem normS_ix (l : List (Nat × List V)) (s : List (Nat × S)) : ∀ ls : List Nat, (normS l s ls).map (·.1) = ls
  | [] => rfl
  | i :: r => by simp only [normS, List.map_cons, normS_ix l s r]

theorem alt_law (a : Alt) (st : St) (t : a.T) (h : a.enc st = some t) : a.dec t = a.norm st := by
  unfold Alt.enc at h
  have hn : (a.norm st).s.map (·.1) = a.ix := normS_ix _ _ _
  obtain ⟨y, hy, hd⟩ := encSs_law a.ks a.ix _ _ t hn h
  obtain ⟨z, hz, hd'⟩ := encLl_law a.ls a.lx _ _ y hy
  cases hz
  unfold Alt.dec
  rw [hd]
  simp only [hd']
  rfl

theorem xeq_eq {x y : X} (h : xeq x y = true) : x = y := by
  cases x <;> cases y <;> simp only [xeq] at h <;> first | rfl | (cases h; done) | (rw [Nat.eq_of_beq_eq_true h])

theorem encA_law : ∀ (as : List Alt) (x : X) (st : St) (s : AltT as), encA as x st = some s → ∃ a : Alt, ∀ (R : Type) (K : X → St → Option R), decA as s K = K x (a.norm st)
  | [], x, st, s, h => by cases h
  | [a], x, st, s, h => by
    simp only [encA] at h
    split at h
    · rename_i hx
      have := xeq_eq hx
      subst this
      refine ⟨a, fun R K => ?_⟩
      simp only [decA]
      rw [alt_law a st s h]
    · cases h
  | a :: b :: r, x, st, s, h => by
    simp only [encA] at h
    split at h
    · rename_i hx
      have := xeq_eq hx
      subst this
      obtain ⟨t, ht, h⟩ := Option.bind_eq_some_iff.1 h
      have h := Option.some.inj h
      subst h
      refine ⟨a, fun R K => ?_⟩
      simp only [decA]
      rw [alt_law a st t ht]
    · obtain ⟨t, ht, h⟩ := Option.bind_eq_some_iff.1 h
      have h := Option.some.inj h
      subst h
      obtain ⟨a', ha⟩ := encA_law (b :: r) x st t ht
      exact ⟨a', fun R K => by simp only [decA]; exact ha R K⟩

theorem region_sound {E : Env} (hE : Good E) {R : Type} {st : St} {K : St → Option R} {r : R} {ρ : Ren} {lo : Nat → Option Nat} {a : Act} {w : World} {Q : Exit → Act → World → Prop}
    {id : Nat} {ops : Array Oper} {draw : Bool} {p : List Oper × List (Nat × Nat)} (hc : planR E ops draw = some p) (he : (evOps E ops (ops.size + ops.size) [] p.1 st fun st => sepK st.s p.2 (K st)) = some r)
    (hr : RelA E.n ρ lo st a w) (hlp : LpOk E st)
    (hn : ∀ (st' : St) (ρ' : Ren) (lo' : Nat → Option Nat) (a' : Act) (w' : World), K st' = some r → RelA E.n ρ' lo' st' a' w' → LpOk E st' → Step ρ lo w ρ' lo' w' → Q .normal a' w') :
    (Code.region id ops draw).wp E.P Q a w := by
  obtain ⟨st', sf, k1, k0, k3, k4⟩ := evOps_flat _ _ _ he hlp
  rw [sepK_eq] at k0
  obtain ⟨_, hsp, k2⟩ := Option.bind_eq_some_iff.1 k0
  clear k0
  obtain ⟨l, ds⟩ := p
  rcases planR_spec hc with ⟨hd, h1, _⟩ | ⟨hd, hfo, ord, hw, hdr, h1, h2⟩
  · subst hd
    simp only at k1
    rw [h1] at k1
    refine wp_region_list ?_
    rw [← wpL_list]
    exact flat_sound hE _ k1 hr fun ρ' lo' a' w' hr' hs' => hn st' ρ' lo' a' w' k2 (hr'.le k3) k4 hs'
  · subst hd
    simp only at k1 hsp
    rw [h1] at k1
    have hrd : RelA E.n ρ lo st a { w with drawn := w.drawn + 1 } :=
      ⟨⟨hr.h.n, hr.h.live, hr.h.obj, hr.h.inj, hr.h.ro, hr.h.sep, hr.h.rsv⟩, hr.s, hr.l, hr.ldom, hr.lout, hr.linj, hr.size, hr.defs⟩
    have hsd : Step ρ lo w ρ lo { w with drawn := w.drawn + 1 } := ⟨.refl ρ, ⟨rfl, rfl, Nat.le_refl _⟩, Nat.le_refl _, fun _ _ h h' => ⟨rfl, h, h', rfl⟩⟩
    refine wp_region_any hfo (any_sound hE hw hdr (ds := ds) (fun p hp => by rw [← h2]; exact hp) ops.size _ (by simp) ?_ ?_ (by rw [rem_all hw]; exact k1) (sepAll_le k3.s hsp) hlp hrd
      fun sF ρ' lo' a' w' hle hr' hs' => hn st' ρ' lo' a' w' k2 (hr'.le (St.le_trans k3 hle)) k4 (hsd.trans hs'))
    · rw [rem_all hw]
      exact hw.len
    · intro j o hj ho
      have : j < ops.size := (Array.getElem?_eq_some_iff.1 ho).1
      simp [this] at hj

theorem keepSt_rel {E : Env} (ops : Array Oper) {st : St} {ρ : Ren} {lo : Nat → Option Nat} {a : Act} {w : World} (hr : RelA E.n ρ lo st a w) (hlp : LpOk E st) :
    ∃ ρ', RelA E.n ρ' lo (keepSt E ops st) a w ∧ Step ρ lo w ρ' lo w ∧ LpOk E (keepSt E ops st) := by
  unfold keepSt
  split
  · exact ⟨ρ, hr, .refl _ _ _, hlp⟩
  · rename_i k _
    obtain ⟨ρ', h1, h2⟩ := keep_all hr (k + 1)
    exact ⟨ρ', h1, h2, hlp⟩

structure LoopOk (E : Env) (N : Nat) (c : Code) (A : LoopA) : Prop where
  zero : ∀ s, A.L 0 s = none
  succ : ∀ n s, A.L (n + 1) s = ev E N c (A.head.dec s) (A.next n)

structure LabelOk (E : Env) (N : Nat) (l : Nat) (c : Code) (A : LoopA) : Prop where
  zero : ∀ s, A.L 0 s = none
  succ : ∀ n s, A.L (n + 1) s = ev E N c (A.head.dec s) (A.back l n)

def LGood (E : Env) (N : Nat) : Code → Prop
  | .seq a b => LGood E N a ∧ LGood E N b
  | .cond _ a b => LGood E N a ∧ LGood E N b
  | .block _ c => LGood E N c
  | .loop c => LGood E N c ∧ ∀ A, E.lp (lid c) = some A → LoopOk E N c A
  | .scope c => LGood E N c ∧ ∀ l rest A, findLabel c l = some rest → E.lp (lbKey l) = some A → LabelOk E N l rest A
  | _ => True

theorem LGood.lab {E : Env} {N : Nat} {l : Nat} : ∀ {c rest : Code}, LGood E N c → findLabel c l = some rest → LGood E N rest
  | .seq a b, rest, h, hf => by
    simp only [findLabel] at hf
    split at hf
    · rename_i r hr
      cases hf
      exact ⟨LGood.lab h.1 hr, h.2⟩
    · exact LGood.lab h.2 hf
  | .label l', rest, h, hf => by
    simp only [findLabel] at hf
    split at hf
    · cases hf; trivial
    · cases hf
  | .skip, rest, h, hf => by cases hf
  | .region .., rest, h, hf => by cases hf
  | .cond .., rest, h, hf => by cases hf
  | .block .., rest, h, hf => by cases hf
  | .loop .., rest, h, hf => by cases hf
  | .rangeFunc .., rest, h, hf => by cases hf
  | .exit .., rest, h, hf => by cases hf
  | .scope .., rest, h, hf => by cases hf
  | .goto .., rest, h, hf => by cases hf
  | .ret, rest, h, hf => by cases hf
  | .refuse .., rest, h, hf => by cases hf

theorem findLabel_size {l : Nat} : ∀ {c rest : Code}, findLabel c l = some rest → SizeOf.sizeOf rest ≤ SizeOf.sizeOf c
  | .seq a b, rest, hf => by
    simp only [findLabel] at hf
    split at hf
    · rename_i r hr
      cases hf
      have := findLabel_size hr
      simp only [Code.seq.sizeOf_spec]
      omega
    · have := findLabel_size hf
      simp only [Code.seq.sizeOf_spec]
      omega
  | .label l', rest, hf => by
    simp only [findLabel] at hf
    split at hf
    · cases hf; simp
    · cases hf
  | .skip, rest, hf => by cases hf
  | .region .., rest, hf => by cases hf
  | .cond .., rest, hf => by cases hf
  | .block .., rest, hf => by cases hf
  | .loop .., rest, hf => by cases hf
  | .rangeFunc .., rest, hf => by cases hf
  | .exit .., rest, hf => by cases hf
  | .scope .., rest, hf => by cases hf
  | .goto .., rest, hf => by cases hf
  | .ret, rest, hf => by cases hf
  | .refuse .., rest, hf => by cases hf

def Lands (P : Program) (c : Code) (Q : Exit → Act → World → Prop) (l : Nat) (a : Act) (w : World) : Prop :=
  ∃ rest, findLabel c l = some rest ∧ ∀ (b : Frame) (k : List Item) (cs : List Frame), ∃ e a' w', Q e a' w' ∧ Arrives P (lone (b.at a (.code rest :: .inScope c :: k)) cs w) b k cs e a' w'

def jumps (P : Program) (c : Code) (Q : Exit → Act → World → Prop) : Exit → Act → World → Prop
  | .goto l, a, w => Lands P c Q l a w
  | e, a, w => Q e a w

theorem lands_of {P : Program} {c rest : Code} {Q : Exit → Act → World → Prop} {l : Nat} {a : Act} {w : World} (hf : findLabel c l = some rest) (h : rest.wp P (jumps P c Q) a w) : Lands P c Q l a w := by
  refine ⟨rest, hf, fun b k cs => ?_⟩
  obtain ⟨e, a₁, w₁, hq, harr⟩ := h b (.inScope c :: k) cs
  cases e with
  | normal => exact ⟨.normal, a₁, w₁, hq, Steps.trans harr (.one step_inScope)⟩
  | exit id => exact ⟨.exit id, a₁, w₁, hq, fun k' hk => harr k' (by simp [exitTo, hk])⟩
  | goto l' =>
    obtain ⟨rest', hf', hl⟩ := hq
    obtain ⟨e₂, a₂, w₂, hq₂, harr₂⟩ := hl b k cs
    exact ⟨e₂, a₂, w₂, hq₂, .of_steps (harr _ (by simp [gotoIn, hf'])) harr₂⟩
  | ret => exact ⟨_, a₁, w₁, hq, harr⟩
  | panic ch => exact ⟨_, a₁, w₁, hq, harr⟩
  | outgrown => exact ⟨_, a₁, w₁, hq, harr⟩

theorem wp_scope_of {P : Program} {c : Code} {Q : Exit → Act → World → Prop} {a : Act} {w : World} (h : c.wp P (jumps P c Q) a w) : (Code.scope c).wp P Q a w := by
  intro b k cs
  obtain ⟨e, a₁, w₁, hq, harr⟩ := h b (.inScope c :: k) cs
  cases e with
  | normal => exact ⟨.normal, a₁, w₁, hq, .head step_scope (Steps.trans harr (.one step_inScope))⟩
  | exit id => exact ⟨.exit id, a₁, w₁, hq, fun k' hk => .head step_scope (harr k' (by simp [exitTo, hk]))⟩
  | goto l' =>
    obtain ⟨rest', hf', hl⟩ := hq
    obtain ⟨e₂, a₂, w₂, hq₂, harr₂⟩ := hl b k cs
    exact ⟨e₂, a₂, w₂, hq₂, .of_steps (.head step_scope (harr _ (by simp [gotoIn, hf']))) harr₂⟩
  | ret => exact ⟨_, a₁, w₁, hq, .of_steps (.one step_scope) harr⟩
  | panic ch => exact ⟨_, a₁, w₁, hq, .of_steps (.one step_scope) harr⟩
  | outgrown => exact ⟨_, a₁, w₁, hq, .of_steps (.one step_scope) harr⟩

theorem ev_sound {E : Env} (hE : Good E) : ∀ (c : Code) (N : Nat), LGood E N c → ∀ {R : Type} {st : St} {K : X → St → Option R} {r : R} {ρ : Ren} {lo : Nat → Option Nat} {a : Act} {w : World}
    {Q : Exit → Act → World → Prop}, ev E N c st K = some r → RelA E.n ρ lo st a w → LpOk E st →
    (∀ (x : X) (st' : St) (ρ' : Ren) (lo' : Nat → Option Nat) (a' : Act) (w' : World), K x st' = some r → RelA E.n ρ' lo' st' a' w' → LpOk E st' → Step ρ lo w ρ' lo' w' → Q x.exit' a' w') →
    c.wp E.P Q a w
  | .skip, N, hL, R, st, K, r, ρ, lo, a, w, Q, he, hr, hlp, hn => wp_skip (hn .normal st ρ lo a w he hr hlp (.refl _ _ _))
  | .region id ops draw, N, hL, R, st, K, r, ρ, lo, a, w, Q, he, hr, hlp, hn => by
    simp only [ev] at he
    split at he
    case h_1 => cases he
    split at he
    case h_2 => cases he
    rename_i l ds hc
    obtain ⟨ρ1, hr1, hs1, hlp1⟩ := keepSt_rel ops hr hlp
    have he' : (evOps E ops (ops.size + ops.size) [] l (keepSt E ops st) fun st => sepK st.s ds (K .normal st)) = some r := by
      exact he
    refine region_sound hE hc (K := K .normal) he' hr1 hlp1 fun st' ρ' lo' a' w' hk hr' hlp' hs => hn .normal st' ρ' lo' a' w' hk hr' hlp' (hs1.trans hs)
  | .seq x y, N, hL, R, st, K, r, ρ, lo, a, w, Q, he, hr, hlp, hn => by
    simp only [ev] at he
    refine wp_seq (ev_sound hE x N hL.1 he hr hlp fun e st' ρ' lo' a' w' hk hr' hlp' hs => ?_)
    cases e with
    | normal => exact ev_sound hE y N hL.2 hk hr' hlp' fun e st'' ρ'' lo'' a'' w'' hk' hr'' hlp'' hs' => hn e st'' ρ'' lo'' a'' w'' hk' hr'' hlp'' (hs.trans hs')
    | exit i => exact hn _ st' ρ' lo' a' w' hk hr' hlp' hs
    | ret => exact hn _ st' ρ' lo' a' w' hk hr' hlp' hs
    | goto i => exact hn _ st' ρ' lo' a' w' hk hr' hlp' hs
  | .cond c x y, N, hL, R, st, K, r, ρ, lo, a, w, Q, he, hr, hlp, hn => by
    simp only [ev] at he
    split at he
    · rename_i t ht
      have hv := opnd_bool hr ht
      split at he
      · cases t
        · exact wp_cond_false hv (ev_sound hE y N hL.2 (by simpa using he) hr hlp hn)
        · exact wp_cond_true hv (ev_sound hE x N hL.1 (by simpa using he) hr hlp hn)
      · rename_i as _
        obtain ⟨s, hs, he⟩ := Option.bind_eq_some_iff.1 he
        have hn' : ∀ (x : X) (st' : St) (ρ' : Ren) (lo' : Nat → Option Nat) (a' : Act) (w' : World), encA as x st' = some s → RelA E.n ρ' lo' st' a' w' → LpOk E st' → Step ρ lo w ρ' lo' w' → Q x.exit' a' w' := by
          intro x st' ρ' lo' a' w' hk hr' hlp' hs'
          obtain ⟨al, hd⟩ := encA_law as x st' s hk
          rw [hd R K] at he
          obtain ⟨lo2, hr2, hs2⟩ := norm_sound hr' (some (al.ix, al.lx))
          exact hn x _ ρ' lo2 a' w' he hr2 (hlp'.norm _) (hs'.trans hs2)
        cases t
        · exact wp_cond_false hv (ev_sound hE y N hL.2 (by simpa using hs) hr hlp hn')
        · exact wp_cond_true hv (ev_sound hE x N hL.1 (by simpa using hs) hr hlp hn')
    · cases he
  | .block id c, N, hL, R, st, K, r, ρ, lo, a, w, Q, he, hr, hlp, hn => by
    simp only [ev] at he
    refine wp_block (ev_sound hE c N hL he hr hlp fun e st' ρ' lo' a' w' hk hr' hlp' hs => ?_)
    cases e with
    | normal => exact hn _ st' ρ' lo' a' w' hk hr' hlp' hs
    | ret => exact hn _ st' ρ' lo' a' w' hk hr' hlp' hs
    | goto i => exact hn _ st' ρ' lo' a' w' hk hr' hlp' hs
    | exit i =>
      simp only [X.exit', Exit.inBlock] at hk ⊢
      by_cases h : i = id
      · subst h
        rw [Nat.beq_refl] at hk
        simp only [if_true]
        exact hn .normal st' ρ' lo' a' w' hk hr' hlp' hs
      · have : Nat.beq i id = false := by
          cases hb : Nat.beq i id with
          | false => rfl
          | true => exact absurd (Nat.eq_of_beq_eq_true hb) h
        rw [this] at hk
        rw [if_neg h]
        exact hn (.exit i) st' ρ' lo' a' w' hk hr' hlp' hs
  | .loop c, N, hL, R, st, K, r, ρ, lo, a, w, Q, he, hr, hlp, hn => by
    simp only [ev] at he
    split at he
    case h_2 => cases he
    rename_i A hA
    have hok := hL.2 A hA
    obtain ⟨s, hs, he⟩ := Option.bind_eq_some_iff.1 he
    obtain ⟨o, ho, he⟩ := Option.bind_eq_some_iff.1 he
    have key : ∀ (n : Nat) {s : A.head.T} {ρ' : Ren} {lo' : Nat → Option Nat} {a' : Act} {w' : World}, A.L n s = some o → RelA E.n ρ' lo' (A.head.dec s) a' w' → LpOk E (A.head.dec s) → Step ρ lo w ρ' lo' w' →
        Code.rounds E.P c Q n a' w' := by
      intro n
      induction n with
      | zero => intro s ρ' lo' a' w' he _ _ _; rw [hok.zero] at he; cases he
      | succ n ih =>
        intro s ρ' lo' a' w' he' hr hlp hs
        rw [rounds_succ]
        rw [hok.succ] at he'
        refine ev_sound hE c N hL.1 he' hr hlp fun e st' ρ'' lo'' a'' w'' hk hr' hlp' hs' => ?_
        have out : encA A.outs e st' = some o → Q e.exit' a'' w'' := by
          intro hk
          obtain ⟨al, hd⟩ := encA_law A.outs e st' o hk
          rw [hd R K] at he
          obtain ⟨lo3, hr3, hs3⟩ := norm_sound hr' (some (al.ix, al.lx))
          exact hn e _ ρ'' lo3 a'' w'' he hr3 (hlp'.norm _) ((hs.trans hs').trans hs3)
        cases e with
        | normal =>
          obtain ⟨s', hs1, hs2⟩ := Option.bind_eq_some_iff.1 hk
          obtain ⟨lo3, hr3, hs3⟩ := norm_sound hr' (some (A.head.ix, A.head.lx))
          have hd := alt_law A.head st' s' hs1
          exact ih hs2 (by rw [hd]; exact hr3) (by rw [hd]; exact hlp'.norm _) ((hs.trans hs').trans hs3)
        | exit i => exact out hk
        | ret => exact out hk
        | goto i => exact out hk
    obtain ⟨lo1, hr1, hs1⟩ := norm_sound hr (some (A.head.ix, A.head.lx))
    have hd := alt_law A.head st s hs
    exact wp_loop_rounds N (key N ho (by rw [hd]; exact hr1) (by rw [hd]; exact hlp.norm _) hs1)
  | .exit id, N, hL, R, st, K, r, ρ, lo, a, w, Q, he, hr, hlp, hn => wp_exit (hn (.exit id) st ρ lo a w he hr hlp (.refl _ _ _))
  | .ret, N, hL, R, st, K, r, ρ, lo, a, w, Q, he, hr, hlp, hn => wp_ret (hn .ret st ρ lo a w he hr hlp (.refl _ _ _))
  | .goto l, N, hL, R, st, K, r, ρ, lo, a, w, Q, he, hr, hlp, hn => wp_goto (hn (.goto l) st ρ lo a w he hr hlp (.refl _ _ _))
  | .label _, N, hL, R, st, K, r, ρ, lo, a, w, Q, he, hr, hlp, hn => wp_label (hn .normal st ρ lo a w he hr hlp (.refl _ _ _))
  | .scope c, N, hL, R, st, K, r, ρ, lo, a, w, Q, he, hr, hlp, hn => by
    simp only [ev] at he
    have H : ∀ (d : Nat) {x : X} {st' : St} {ρ' : Ren} {lo' : Nat → Option Nat} {a' : Act} {w' : World}, hnd E N c K d x st' = some r → RelA E.n ρ' lo' st' a' w' → LpOk E st' → Step ρ lo w ρ' lo' w' → jumps E.P c Q x.exit' a' w' := by
      intro d
      induction d with
      | zero =>
        intro x st' ρ' lo' a' w' hk hr' hlp' hs
        cases x with
        | goto l => cases hk
        | normal => exact hn .normal st' ρ' lo' a' w' hk hr' hlp' hs
        | exit i => exact hn (.exit i) st' ρ' lo' a' w' hk hr' hlp' hs
        | ret => exact hn .ret st' ρ' lo' a' w' hk hr' hlp' hs
      | succ d ih =>
        intro x st' ρ' lo' a' w' hk hr' hlp' hs
        cases x with
        | normal => exact hn .normal st' ρ' lo' a' w' hk hr' hlp' hs
        | exit i => exact hn (.exit i) st' ρ' lo' a' w' hk hr' hlp' hs
        | ret => exact hn .ret st' ρ' lo' a' w' hk hr' hlp' hs
        | goto l =>
          simp only [hnd] at hk
          split at hk
          case h_2 => cases hk
          rename_i rest hf
          split at hk
          case h_2 => cases hk
          rename_i A hA
          have hok := hL.2 l rest A hf hA
          have hsz := findLabel_size hf
          obtain ⟨s, hs0, hk⟩ := Option.bind_eq_some_iff.1 hk
          obtain ⟨o, ho, hk⟩ := Option.bind_eq_some_iff.1 hk
          have key : ∀ (n : Nat) {s : A.head.T} {ρ' : Ren} {lo' : Nat → Option Nat} {a' : Act} {w' : World}, A.L n s = some o → RelA E.n ρ' lo' (A.head.dec s) a' w' → LpOk E (A.head.dec s) → Step ρ lo w ρ' lo' w' →
              Lands E.P c Q l a' w' := by
            intro n
            induction n with
            | zero => intro s ρ' lo' a' w' he _ _ _; rw [hok.zero] at he; cases he
            | succ n ihn =>
              intro s ρ' lo' a' w' he' hr hlp hs
              rw [hok.succ] at he'
              refine lands_of hf (ev_sound hE rest N (hL.1.lab hf) he' hr hlp fun e st' ρ'' lo'' a'' w'' hk2 hr' hlp' hs' => ?_)
              have out : encA A.outs e st' = some o → jumps E.P c Q e.exit' a'' w'' := by
                intro hk2
                obtain ⟨al, hd⟩ := encA_law A.outs e st' o hk2
                rw [hd R (hnd E N c K d)] at hk
                obtain ⟨lo3, hr3, hs3⟩ := norm_sound hr' (some (al.ix, al.lx))
                exact ih hk hr3 (hlp'.norm _) ((hs.trans hs').trans hs3)
              cases e with
              | normal => exact out hk2
              | exit i => exact out hk2
              | ret => exact out hk2
              | goto i =>
                simp only [LoopA.back] at hk2
                split at hk2
                · rename_i hb
                  have := Nat.eq_of_beq_eq_true hb
                  subst this
                  obtain ⟨s', hs1, hs2⟩ := Option.bind_eq_some_iff.1 hk2
                  obtain ⟨lo3, hr3, hs3⟩ := norm_sound hr' (some (A.head.ix, A.head.lx))
                  have hd := alt_law A.head st' s' hs1
                  exact ihn hs2 (by rw [hd]; exact hr3) (by rw [hd]; exact hlp'.norm _) ((hs.trans hs').trans hs3)
                · exact out hk2
          obtain ⟨lo1, hr1, hs1⟩ := norm_sound hr' (some (A.head.ix, A.head.lx))
          have hd := alt_law A.head st' s hs0
          exact key N ho (by rw [hd]; exact hr1) (by rw [hd]; exact hlp'.norm _) (hs.trans hs1)
    exact wp_scope_of (ev_sound hE c N hL.1 he hr hlp fun x st' ρ' lo' a' w' hk hr' hlp' hs => H 2 hk hr' hlp' hs)
def quietO (E : Env) (o : Oper) : Bool :=
  match skey E o with
  | some (none, true) => false
  | _ => true

def quietC (E : Env) : Code → Bool
  | .region id ops _ => E.dd id || ops.toList.all (quietO E)
  | .seq a b => quietC E a && quietC E b
  | .cond _ a b => quietC E a && quietC E b
  | .block _ c => quietC E c
  | .loop c => quietC E c
  | .scope _ => false
  | _ => true

theorem flat_quiet {E : Env} {ops : Array Oper} : ∀ (l : List Oper) {st st' : St}, flat E ops l st = some st' → LpOk E st → l.all (quietO E) = true → st'.h = st.h
  | [], st, st', h, _, _ => by cases h; rfl
  | o :: l, st, st', h, hlp, hq => by
    simp only [flat] at h
    simp only [List.all_cons, Bool.and_eq_true] at hq
    obtain ⟨st1, h1, h2⟩ := Option.bind_eq_some_iff.1 h
    obtain ⟨x, lx, hx, rfl, hs⟩ := stp_shape hlp h1
    obtain ⟨x2, l2, h2', _, hm, _⟩ := hs st ((St.le_refl st).alikeG o)
    rw [flat_quiet l h2 (hlp.out _ _ _) hq.2, out_h]
    rcases hm.h1 with e | ⟨e, _⟩
    · have := hq.1
      simp [quietO, e] at this
    · exact e

theorem fill_key {E : Env} {o : Oper} {d : Nat} (hd : fillOf E o = some d) : quietO E o = false := by
  unfold fillOf at hd
  split at hd
  case h_2 => cases hd
  rename_i t x y ho
  split at hd
  case h_2 => cases hd
  rename_i hfz _
  simp [quietO, skey, ho, hfz]

theorem keepSt_quiet {E : Env} {ops : Array Oper} (hq : ops.toList.all (quietO E) = true) (st : St) : keepSt E ops st = st := by
  have : keeps E ops = 0 := by
    unfold keeps
    rw [List.filter_eq_nil_iff.2]
    · rfl
    · intro o ho hs
      rw [List.all_eq_true] at hq
      have h1 := hq o ho
      cases hd : fillOf E o with
      | none => rw [hd] at hs; cases hs
      | some d => rw [fill_key hd] at h1; cases h1
  unfold keepSt
  rw [this]

theorem ev_quiet {E : Env} : ∀ (c : Code) (N : Nat), LGood E N c → quietC E c = true → ∀ {R : Type} {st : St} {K : X → St → Option R} {r : R}, ev E N c st K = some r → LpOk E st →
    ∃ x st', K x st' = some r ∧ st'.h = st.h ∧ LpOk E st'
  | .skip, N, hL, hq, R, st, K, r, he, hlp => ⟨.normal, st, he, rfl, hlp⟩
  | .region id ops draw, N, hL, hq, R, st, K, r, he, hlp => by
    simp only [ev] at he
    split at he
    case h_1 => cases he
    rename_i hdd
    have hq : ops.toList.all (quietO E) = true := by simpa [quietC, hdd] using hq
    split at he
    case h_2 => cases he
    rename_i l ds hc
    rw [keepSt_quiet hq] at he
    replace he : (evOps E ops (ops.size + ops.size) [] l st fun st => sepK st.s ds (K .normal st)) = some r := by
      exact he
    obtain ⟨st', sf, k1, k2, k3, k4⟩ := evOps_flat _ _ _ he hlp
    rw [sepK_eq] at k2
    obtain ⟨_, _, k2⟩ := Option.bind_eq_some_iff.1 k2
    exact ⟨.normal, st', k2, by rw [← k3.h]; exact flat_quiet _ k1 hlp (List.all_eq_true.2 fun o ho => List.all_eq_true.1 hq o (planR_mem hc ho)), k4⟩
  | .seq a b, N, hL, hq, R, st, K, r, he, hlp => by
    simp only [quietC, Bool.and_eq_true] at hq
    simp only [ev] at he
    obtain ⟨x, st', h1, h2, h3⟩ := ev_quiet a N hL.1 hq.1 he hlp
    cases x with
    | normal =>
      obtain ⟨y, st'', g1, g2, g3⟩ := ev_quiet b N hL.2 hq.2 h1 h3
      exact ⟨y, st'', g1, g2.trans h2, g3⟩
    | exit i => exact ⟨_, st', h1, h2, h3⟩
    | ret => exact ⟨_, st', h1, h2, h3⟩
    | goto i => exact ⟨_, st', h1, h2, h3⟩
  | .cond c a b, N, hL, hq, R, st, K, r, he, hlp => by
    simp only [quietC, Bool.and_eq_true] at hq
    simp only [ev] at he
    split at he
    · rename_i t ht
      split at he
      · cases t
        · exact ev_quiet b N hL.2 hq.2 (by simpa using he) hlp
        · exact ev_quiet a N hL.1 hq.1 (by simpa using he) hlp
      · rename_i as _
        obtain ⟨s, hs, he⟩ := Option.bind_eq_some_iff.1 he
        have go : (∃ x st', encA as x st' = some s ∧ st'.h = st.h ∧ LpOk E st') → ∃ x st', K x st' = some r ∧ st'.h = st.h ∧ LpOk E st' := by
          rintro ⟨x, st', h1, h2, h3⟩
          obtain ⟨al, hd⟩ := encA_law as x st' s h1
          rw [hd R K] at he
          exact ⟨x, _, he, h2, h3.norm _⟩
        cases t
        · exact go (ev_quiet b N hL.2 hq.2 (by simpa using hs) hlp)
        · exact go (ev_quiet a N hL.1 hq.1 (by simpa using hs) hlp)
    · cases he
  | .block id c, N, hL, hq, R, st, K, r, he, hlp => by
    simp only [ev] at he
    obtain ⟨x, st', h1, h2, h3⟩ := ev_quiet c N hL hq he hlp
    cases x with
    | normal => exact ⟨_, st', h1, h2, h3⟩
    | ret => exact ⟨_, st', h1, h2, h3⟩
    | goto i => exact ⟨_, st', h1, h2, h3⟩
    | exit i =>
      simp only at h1
      split at h1
      · exact ⟨_, st', h1, h2, h3⟩
      · exact ⟨_, st', h1, h2, h3⟩
  | .loop c, N, hL, hq, R, st, K, r, he, hlp => by
    simp only [ev] at he
    split at he
    case h_2 => cases he
    rename_i A hA
    have hok := hL.2 A hA
    obtain ⟨s, hs, he⟩ := Option.bind_eq_some_iff.1 he
    obtain ⟨o, ho, he⟩ := Option.bind_eq_some_iff.1 he
    have key : ∀ (n : Nat) {s : A.head.T}, A.L n s = some o → LpOk E (A.head.dec s) → (A.head.dec s).h = st.h → ∃ x st', K x st' = some r ∧ st'.h = st.h ∧ LpOk E st' := by
      intro n
      induction n with
      | zero => intro s he _ _; rw [hok.zero] at he; cases he
      | succ n ih =>
        intro s he' hlp hh
        rw [hok.succ] at he'
        obtain ⟨x, st', h1, h2, h3⟩ := ev_quiet c N hL.1 hq he' hlp
        have out : encA A.outs x st' = some o → ∃ x st', K x st' = some r ∧ st'.h = st.h ∧ LpOk E st' := by
          intro hk
          obtain ⟨al, hd⟩ := encA_law A.outs x st' o hk
          rw [hd R K] at he
          exact ⟨x, _, he, h2.trans hh, h3.norm _⟩
        cases x with
        | normal =>
          obtain ⟨s', hs1, hs2⟩ := Option.bind_eq_some_iff.1 h1
          have hd := alt_law A.head st' s' hs1
          exact ih hs2 (by rw [hd]; exact h3.norm _) (by rw [hd]; exact h2.trans hh)
        | exit i => exact out h1
        | ret => exact out h1
        | goto i => exact out h1
    have hd := alt_law A.head st s hs
    exact key N ho (by rw [hd]; exact hlp.norm _) (by rw [hd]; rfl)
  | .exit id, N, hL, hq, R, st, K, r, he, hlp => ⟨.exit id, st, he, rfl, hlp⟩
  | .ret, N, hL, hq, R, st, K, r, he, hlp => ⟨.ret, st, he, rfl, hlp⟩
  | .goto l, N, hL, hq, R, st, K, r, he, hlp => ⟨.goto l, st, he, rfl, hlp⟩
  | .label _, N, hL, hq, R, st, K, r, he, hlp => ⟨.normal, st, he, rfl, hlp⟩
  | .scope .., N, hL, hq, R, st, K, r, he, hlp => by simp [quietC] at hq
  | .rangeFunc .., N, hL, hq, R, st, K, r, he, hlp => by simp [ev] at he
  | .refuse _, N, hL, hq, R, st, K, r, he, hlp => by simp [ev] at he

theorem resVs_thru (E : Env) (st : St) : ∀ (rs : List ResultVar), Thru (fun R K => resVs (R := R) E st rs K)
  | [] => Thru.k _
  | .tmp t :: r => fun R K x h => by
    simp only [resVs] at h
    split at h
    · rename_i v hv
      obtain ⟨vs, h1, h2⟩ := resVs_thru E st r _ _ _ h
      exact ⟨v :: vs, h1, fun R2 K2 => by simp only [resVs, hv]; exact h2 R2 _⟩
    · rename_i v hv
      obtain ⟨vs, h1, h2⟩ := resVs_thru E st r _ _ _ h
      exact ⟨v :: vs, h1, fun R2 K2 => by simp only [resVs, hv]; exact h2 R2 _⟩
    · cases h
  | .cell a t :: r => fun R K x h => by
    simp only [resVs] at h
    split at h
    · rename_i l hl
      obtain ⟨v, h1, h2⟩ := dest_thru l _ _ _ _ h
      obtain ⟨vs, h3, h4⟩ := resVs_thru E st r _ _ _ h1
      exact ⟨v :: vs, h3, fun R2 K2 => by simp only [resVs, hl]; exact (h2 R2 _).trans (h4 R2 _)⟩
    · rename_i ls hl
      obtain ⟨cs, h1, h2⟩ := rdLs_thru ls _ 0 _ _ _ h
      obtain ⟨vs, h3, h4⟩ := resVs_thru E st r _ _ _ h1
      exact ⟨.agg cs :: vs, h3, fun R2 K2 => by simp only [resVs, hl]; exact (h2 R2 _).trans (h4 R2 _)⟩
    · rename_i n hl
      obtain ⟨cs, h0, h1⟩ := Option.bind_eq_some_iff.1 h
      obtain ⟨vs, h3, h4⟩ := resVs_thru E st r _ _ _ h1
      exact ⟨.agg cs :: vs, h3, fun R2 K2 => by simp only [resVs, hl, h0, Option.bind_some]; exact h4 R2 _⟩
    · cases h

theorem evFT_triple {E : Env} (hE : Good E) {N : Nat} {f : FuncId} {fn : Func} (hf : E.P.funcs[f]? = some fn) (hn : fn.ntmps = E.n) (hL : ∀ c, fn.body = some c → LGood E N c) {ks rs : List SK} {t : Tup ks H} (hl : (decVs ks t).1.length ≤ E.n) (ha : ∀ i, i < (decVs ks t).1.length → E.lpT i = none) {s : Tup rs H}
    (he : evFT E N fn ks rs t = some s) : Triple E.P f (decVs ks t).1 (decVs ks t).2 (outR rs s).1 (outR rs s).2 := by
  generalize hargs0 : (decVs ks t).1 = args at *
  generalize hh0 : (decVs ks t).2 = h at *
  intro ρ w xs hrel hsz hargs
  unfold evFT at he
  rw [hargs0, hh0] at he
  split at he
  case h_2 => cases he
  rename_i c hb
  refine calls_of_wp hf hb ?_
  have hr : RelA E.n ρ nol ⟨argSlots 0 args, [], h⟩ { tmps := xs ++ Array.replicate (fn.ntmps - xs.size) undef, defers := [] } w := by
    refine ⟨hrel, fun i => ?_, (fun t cs ht => by cases ht), (fun t b ht => by cases ht), (fun t b ht => by cases ht), (fun t t' b ht => by cases ht), by simp; omega, rfl⟩
    show RelS ρ nol (lk (argSlots 0 args) i) _
    rw [lk_argSlots]
    simp only [Nat.zero_le, if_true, Nat.sub_zero]
    split
    · rename_i u hu
      have hi : i < args.length := by
        rcases Nat.lt_or_ge i args.length with h | h
        · exact h
        · rw [List.getElem?_eq_none h] at hu; cases hu
      have hi' : i < xs.size := by omega
      have : (xs ++ Array.replicate (fn.ntmps - xs.size) undef).getD i undef = xs[i] := by
        rw [Array.getD_eq_getD_getElem?, Array.getElem?_append_left hi', Array.getElem?_eq_getElem hi']; rfl
      rw [this]
      exact hargs i u _ hu (Array.getElem?_eq_getElem hi')
    · trivial
  have hlp : LpOk E ⟨argSlots 0 args, [], h⟩ := fun i => by
    show lpOk E i (lk (argSlots 0 args) i) = true
    rw [lk_argSlots]
    simp only [Nat.zero_le, if_true, Nat.sub_zero]
    split
    · rename_i u hu
      have hi : i < args.length := by
        rcases Nat.lt_or_ge i args.length with h | h
        · exact h
        · rw [List.getElem?_eq_none h] at hu; cases hu
      simp only [lpOk, ha i hi]
    · rfl
  refine ev_sound hE c N (hL c hb) he hr hlp fun x st' ρ' lo' a' w' hk hr' _ hs => ?_
  have fine : (resVs E st' fn.results.toList fun vs => encVs rs vs (some st'.h)) = some s → a'.defers = [] ∧ ∃ y, (results fn a'.tmps).run E.P w' = .ok y w' ∧ ∃ ρ' x, Ending.returned y = .returned x ∧ RelH ρ' (outR rs s).2 w' ∧ Step ρ nol w ρ' nol w' ∧ RelV ρ' (outR rs s).1 x := by
    intro hk
    obtain ⟨vs, hk1, hk2⟩ := resVs_thru E st' _ _ _ _ hk
    obtain ⟨y0, hy0, hd0⟩ := encVs_law rs vs _ s hk1
    cases hy0
    replace hk : resV E fn st' = some ((outR rs s).1, (outR rs s).2) := by
      unfold resV outR
      refine (hk2 _ _).trans ?_
      rw [hd0]
      cases vs with
      | nil => rfl
      | cons v vs => cases vs <;> rfl
    obtain ⟨y, h1, h2, h3⟩ := resV_run hr' hk
    exact ⟨hr'.defs, y, h1, ρ', y, rfl, by rw [h3]; exact hr'.h, ⟨hs.le, hs.still, hs.size, fun b hb k1 k2 => by
      obtain ⟨m1, m2, _, m4⟩ := hs.keep b hb k1 k2
      exact ⟨m1, m2, fun _ => by simp [nol], m4⟩⟩, h2⟩
  cases x with
  | normal => exact fine hk
  | ret => exact fine hk
  | exit i => cases hk
  | goto i => cases hk

end
end Go.L

namespace Go.L
noncomputable section

mutual
def V.scal : V → Bool
  | .ptr .. | .sl .. | .map _ | .rptr _ | .rs _ _ => false
  | .fn _ cs | .fnb _ cs | .agg cs | .tup cs => V.scals cs
  | _ => true
def V.scals : List V → Bool
  | [] => true
  | v :: r => v.scal && V.scals r
end

theorem scals_get : ∀ {cs : List V} {i : Nat} {v : V}, V.scals cs = true → cs[i]? = some v → v.scal = true
  | [], i, v, _, h => by simp at h
  | c :: cs, i, v, hs, h => by
    simp only [V.scals, Bool.and_eq_true] at hs
    cases i with
    | zero => simp at h; subst h; exact hs.1
    | succ i => simp at h; exact scals_get hs.2 h

theorem RelV.scal {ρ ρ' : Ren} {v : V} {x : Value} (h : RelV ρ v x) (hs : v.scal = true) : RelV ρ' v x := by
  induction h with
  | bool b => exact .bool b
  | int k n => exact .int k n
  | float k b => exact .float k b
  | cplx k a b => exact .cplx k a b
  | str s => exact .str s
  | nilp => exact .nilp
  | ptr => simp [V.scal] at hs
  | rptr => simp [V.scal] at hs
  | nils => exact .nils
  | sl => simp [V.scal] at hs
  | rs0 => simp [V.scal] at hs
  | rs => simp [V.scal] at hs
  | nilm => exact .nilm
  | map => simp [V.scal] at hs
  | nilf => exact .nilf
  | fn f cs xs h1 h2 ih => exact .fn f cs xs h1 fun i v x hv hx => ih i v x hv hx (scals_get (by simpa [V.scal] using hs) hv)
  | fnb f cs xs h1 h2 ih => exact .fnb f cs xs h1 fun i v x hv hx => ih i v x hv hx (scals_get (by simpa [V.scal] using hs) hv)
  | agg cs xs h1 h2 h3 ih => exact .agg cs xs h1 (fun i v x hv hx => ih i v x hv hx (scals_get (by simpa [V.scal] using hs) hv)) h3
  | tup cs xs h1 h2 ih => exact .tup cs xs h1 fun i v x hv hx => ih i v x hv hx (scals_get (by simpa [V.scal] using hs) hv)

def Ren.all (w : World) : Ren := ⟨0, fun _ => 0, fun _ => none, fun b => w.heap[b]?⟩

theorem relH_all (w : World) : RelH (Ren.all w) [] w :=
  ⟨rfl, (fun id o h => by simp at h), (fun id g h => by cases h), (fun i j g g' h => by cases h), (fun b ob h => h), (fun i g h => by cases h), (fun id h => by simp at h)⟩

theorem step_all {ρ' : Ren} {w w' : World} {h' : H} (hs : Step (Ren.all w) nol w ρ' nol w') (hh : RelH ρ' h' w') {b : Nat} (hb : b < w.heap.size) : w'.heap[b]? = w.heap[b]? := by
  have h1 : (Ren.all w).ro b = some w.heap[b] := Array.getElem?_eq_getElem hb
  rw [hh.ro b _ (hs.le.ro b _ h1), Array.getElem?_eq_getElem hb]

theorem Triple.closed {P : Program} {f : FuncId} {args : List V} {v : V} {h' : H} (ht : Triple P f args [] v h') (hg : V.scals args = true) (hv : v.scal = true) (h : H) : Triple P f args h v h := by
  intro ρ w xs hrel hsz hargs
  refine (ht (Ren.all w) w xs (relH_all w) hsz fun i a x ha hx => (hargs i a x ha hx).scal (scals_get hg ha)).mono fun e w' he => ?_
  obtain ⟨ρ', x, rfl, hh, hs, hx⟩ := he
  have hold : ∀ b, b < w.heap.size → w'.heap[b]? = w.heap[b]? := fun b hb => step_all hs hh hb
  refine ⟨ρ, x, rfl, ⟨hrel.n, hrel.live, fun id g hg => ?_, hrel.inj, fun b ob hb => ?_, hrel.sep, hrel.rsv⟩, ⟨.refl ρ, hs.still, hs.size, fun b hb h1 h2 => ⟨hold b hb, h1, h2, rfl⟩⟩, hx.scal hv⟩
  · obtain ⟨o, ob, h1, h2, h3⟩ := hrel.obj id g hg
    exact ⟨o, ob, h1, by rw [hold _ (hrel.blk_lt hg)]; exact h2, h3⟩
  · rw [hold _ (hrel.ro_lt hb)]; exact hrel.ro b ob hb

structure Fine (E : Env) (N : Nat) (f : FuncId) (fn : Func) (ks rs : List SK) (F : Tup ks H → Option (Tup rs H)) : Prop where
  func : E.P.funcs[f]? = some fn
  name : (fn.name == "runtime.NumGoroutine") = false
  body : fn.body.isNone = false
  ntmps : fn.ntmps = E.n
  loops : ∀ c, fn.body = some c → LGood E N c
  lp : (List.range ks.length).all (fun i => (E.lpT i).isNone) = true
  args : Nat.ble ks.length E.n = true
  link : ∀ t, F t = evFT E N fn ks rs t

variable {E : Env} {N : Nat} {f : FuncId} {fn : Func} {ks rs : List SK} {F : Tup ks H → Option (Tup rs H)}

theorem Fine.callable (h : Fine E N f fn ks rs F) : Callable E.P f := ⟨fn, h.func, h.name, h.body⟩

theorem decVs_length : ∀ (ks : List SK) {E : Type} (t : Tup ks E), (decVs ks t).1.length = ks.length
  | [], _, t => rfl
  | k :: r, _, t => by simp only [decVs, List.length_cons, decVs_length r]

theorem Fine.triple (hF : Fine E N f fn ks rs F) (hE : Good E) {t : Tup ks H} {s : Tup rs H} (he : F t = some s) : Triple E.P f (decVs ks t).1 (decVs ks t).2 (outR rs s).1 (outR rs s).2 :=
  evFT_triple hE hF.func hF.ntmps hF.loops (by rw [decVs_length]; exact Nat.le_of_ble_eq_true hF.args) (fun i hi => by
    have := hF.lp
    rw [List.all_eq_true] at this
    rw [decVs_length] at hi
    simpa using this i (by simpa using hi)) (by rw [← hF.link]; exact he)

theorem mkFun_good (hF : Fine E N f fn ks rs F) (hE : Good E) (vs : List V) (h : H) (s : Tup rs H) (he : (mkFun ks rs F).F vs h = some s) :
    Callable E.P f ∧ Triple E.P f vs h ((mkFun ks rs F).out s).1 ((mkFun ks rs F).out s).2 := by
  obtain ⟨t, ht, he⟩ := Option.bind_eq_some_iff.1 he
  obtain ⟨y, hy, hd⟩ := encVs_law ks vs _ t ht
  cases hy
  have := hF.triple hE he
  rw [hd] at this
  exact ⟨hF.callable, this⟩

theorem mkFun_gro (hF : Fine E N f fn ks rs F) (hE : Good E) (hg : ∀ t s, F t = some s → Grows (decVs ks t).2 (outR rs s).2) (vs : List V) (h : H) (s : Tup rs H) (he : (mkFun ks rs F).F vs h = some s) :
    (Callable E.P f ∧ Triple E.P f vs h ((mkFun ks rs F).out s).1 ((mkFun ks rs F).out s).2) ∧ Grows h ((mkFun ks rs F).out s).2 := by
  refine ⟨mkFun_good hF hE vs h s he, ?_⟩
  obtain ⟨t, ht, he⟩ := Option.bind_eq_some_iff.1 he
  obtain ⟨y, hy, hd⟩ := encVs_law ks vs _ t ht
  cases hy
  have := hg t s he
  rw [hd] at this
  exact this

theorem mkFun_own (hF : Fine E N f fn ks rs F) (hE : Good E) (hg : ∀ t s, F t = some s → Owns (decVs ks t).1 (decVs ks t).2 (outR rs s).2) (vs : List V) (h : H) (s : Tup rs H) (he : (mkFun ks rs F).F vs h = some s) :
    (Callable E.P f ∧ Triple E.P f vs h ((mkFun ks rs F).out s).1 ((mkFun ks rs F).out s).2) ∧ Owns vs h ((mkFun ks rs F).out s).2 := by
  refine ⟨mkFun_good hF hE vs h s he, ?_⟩
  obtain ⟨t, ht, he⟩ := Option.bind_eq_some_iff.1 he
  obtain ⟨y, hy, hd⟩ := encVs_law ks vs _ t ht
  cases hy
  have := hg t s he
  rw [hd] at this
  exact this

def LK.scal : LK → Bool
  | .ref => false
  | _ => true

def SK.scal : SK → Bool
  | .one l => l.scal
  | .agg ls => ls.all LK.scal
  | .blk => false
  | .clo _ _ => false
  | .lp _ _ => false

theorem toV_scal : ∀ (l : LK) (x : l.T), l.scal = true → (l.toV x).scal = true
  | .int _, _, _ => rfl
  | .bool, _, _ => rfl
  | .str, _, _ => rfl
  | .float _, _, _ => rfl
  | .cplx _, _, _ => rfl
  | .ref, _, h => by cases h

theorem decLs_scal : ∀ (ls : List LK) {E : Type} (t : TupL ls E), ls.all LK.scal = true → V.scals (decLs ls t).1 = true
  | [], _, t, _ => rfl
  | l :: r, _, t, h => by
    simp only [List.all_cons, Bool.and_eq_true] at h
    simp only [decLs, V.scals, Bool.and_eq_true]
    exact ⟨toV_scal l _ h.1, decLs_scal r _ h.2⟩

theorem decV_scal : ∀ (k : SK) {E : Type} (t : k.T E), k.scal = true → (k.decV t).1.scal = true
  | .one l, _, t, h => toV_scal l _ h
  | .agg ls, _, t, h => by simp only [SK.decV, V.scal]; exact decLs_scal ls _ h
  | .blk, _, t, h => by cases h
  | .clo _ _, _, t, h => by cases h
  | .lp _ _, _, t, h => by cases h

theorem decVs_scal : ∀ (ks : List SK) {E : Type} (t : Tup ks E), ks.all SK.scal = true → V.scals (decVs ks t).1 = true
  | [], _, t, _ => rfl
  | k :: r, _, t, h => by
    simp only [List.all_cons, Bool.and_eq_true] at h
    simp only [decVs, V.scals, Bool.and_eq_true]
    exact ⟨decV_scal k _ h.1, decVs_scal r _ h.2⟩

theorem outR_scal (rs : List SK) (s : Tup rs H) (h : rs.all SK.scal = true) : (outR rs s).1.scal = true := by
  have := decVs_scal rs s h
  unfold outR
  simp only
  split
  · rename_i v hv
    rw [hv] at this
    simpa [V.scals] using this
  · simpa [V.scal] using this

theorem mkP_good (hF : Fine E N f fn ks rs F) (hE : Good E) (hk : ks.all SK.scal = true) (hr : rs.all SK.scal = true) (vs : List V) (s : Tup rs H) (he : (mkP ks rs F).F vs = some s) :
    Callable E.P f ∧ ∀ h, Triple E.P f vs h ((mkP ks rs F).out s) h := by
  obtain ⟨t, ht, he⟩ := Option.bind_eq_some_iff.1 he
  obtain ⟨y, hy, hd⟩ := encVs_law ks vs _ t ht
  cases hy
  have := hF.triple hE he
  rw [hd] at this
  refine ⟨hF.callable, Triple.closed this ?_ (outR_scal rs s hr)⟩
  have := decVs_scal ks t hk
  rw [hd] at this
  exact this

theorem mkFun_ro (hF : Fine E N f fn ks rs F) (hE : Good E) (hq : (fn.body.map (quietC E)).getD false = true) (vs : List V) (h : H) (s : Tup rs H) (he : (mkFun ks rs F).F vs h = some s) :
    Callable E.P f ∧ Triple E.P f vs h ((mkFun ks rs F).out s).1 h := by
  obtain ⟨h1, h2⟩ := mkFun_good hF hE vs h s he
  refine ⟨h1, ?_⟩
  have : ((mkFun ks rs F).out s).2 = h := by
    obtain ⟨t, ht, he⟩ := Option.bind_eq_some_iff.1 he
    obtain ⟨y, hy, hd⟩ := encVs_law ks vs _ t ht
    cases hy
    rw [hF.link] at he
    unfold evFT at he
    cases hb : fn.body with
    | none => rw [hb] at he; cases he
    | some c =>
      rw [hb] at he hq
      have hlp : LpOk E ⟨argSlots 0 (decVs ks t).1, [], (decVs ks t).2⟩ := fun i => by
        show lpOk E i (lk (argSlots 0 (decVs ks t).1) i) = true
        rw [lk_argSlots]
        simp only [Nat.zero_le, if_true, Nat.sub_zero]
        split
        · rename_i u hu
          have hi : i < (decVs ks t).1.length := by
            rcases Nat.lt_or_ge i (decVs ks t).1.length with h | h
            · exact h
            · rw [List.getElem?_eq_none h] at hu; cases hu
          have hlp' : E.lpT i = none := by
            have := hF.lp
            rw [List.all_eq_true] at this
            rw [decVs_length] at hi
            simpa using this i (by simpa using hi)
          simp only [lpOk, hlp']
        · rfl
      obtain ⟨x, st', k1, k2, _⟩ := ev_quiet c N (hF.loops c hb) (by simpa using hq) he hlp
      have fine : (resVs E st' fn.results.toList fun vs => encVs rs vs (some st'.h)) = some s → (outR rs s).2 = h := by
        intro hk
        obtain ⟨vs, hk1, hk2⟩ := resVs_thru E st' _ _ _ _ hk
        obtain ⟨y0, hy0, hd0⟩ := encVs_law rs vs _ s hk1
        cases hy0
        unfold outR
        rw [hd0]
        show st'.h = h
        rw [k2]
        show (decVs ks t).2 = h
        rw [hd]
      cases x with
      | normal => exact fine k1
      | ret => exact fine k1
      | exit i => cases k1
      | goto i => cases k1
  rw [this] at h2
  exact h2

end
end Go.L

namespace Go.L
noncomputable section

def calTab : List (Nat × Cal) → FuncId → Option Cal
  | [], _ => none
  | (g, F) :: r, f => match Nat.beq g f with
    | true => some F
    | false => calTab r f

def altTab : List (Nat × List Alt) → Nat → Option (List Alt)
  | [], _ => none
  | (g, F) :: r, f => match Nat.beq g f with
    | true => some F
    | false => altTab r f

def loopTab : List (Nat × LoopA) → Nat → Option LoopA
  | [], _ => none
  | (g, F) :: r, f => match Nat.beq g f with
    | true => some F
    | false => loopTab r f

def natTab : List (Nat × Nat) → Nat → Option Nat
  | [], _ => none
  | (g, F) :: r, f => match Nat.beq g f with
    | true => some F
    | false => natTab r f

def inTab : List Nat → Nat → Bool
  | [], _ => false
  | g :: r, f => match Nat.beq g f with
    | true => true
    | false => inTab r f

def AllC (P : Program) : List (Nat × Cal) → Prop
  | [] => True
  | p :: r => CalOk P p.1 p.2 ∧ AllC P r

theorem calTab_good {P : Program} : ∀ (l : List (Nat × Cal)), AllC P l → ∀ f F, calTab l f = some F → CalOk P f F
  | [], _, _, _, he => by cases he
  | (g, G) :: r, hl, f, F, he => by
    simp only [calTab] at he
    split at he
    · rename_i hb
      have := Nat.eq_of_beq_eq_true hb
      subst this
      cases he
      exact hl.1
    · exact calTab_good r hl.2 f F he

theorem good_of {P : Program} {n : Nat} {lc fz rl : Nat → Bool} {lpT : Nat → Option Nat} {jn : Nat → Option (List Alt)} {lp : Nat → Option LoopA} {rs : Nat → Option Nat} {dd : Nat → Bool} {tab : List (Nat × Cal)}
    (ht : AllC P tab) : Good ⟨P, n, lc, fz, lpT, rl, calTab tab, jn, lp, rs, dd⟩ := ⟨fun f c h => calTab_good tab ht f c h⟩

def asFn : V → Option (Nat × List V)
  | .fn f cs => some (f, cs)
  | _ => none

def dynD (rs : List SK) : List (Nat × (List V → H → Option (Tup rs H))) → Nat → List V → H → Option (Tup rs H)
  | [], _, _, _ => none
  | p :: r, f, vs, h => match Nat.beq f p.1 with
    | true => p.2 vs h
    | false => dynD rs r f vs h

def dynC (rs : List SK) (l : List (Nat × (List V → H → Option (Tup rs H)))) (x : V) (vs : List V) (h : H) : Option (Tup rs H) :=
  (asFn x).bind fun p => dynD rs l p.1 (vs ++ p.2) h

def dynF (rs : List SK) (l : List (Nat × (List V → H → Option (Tup rs H)))) : Fun :=
  ⟨Tup rs H, fun vs h => match vs with
    | x :: vs => dynC rs l x vs h
    | [] => none, outR rs⟩

def AllD (P : Program) (rs : List SK) : List (Nat × (List V → H → Option (Tup rs H))) → Prop
  | [] => True
  | p :: r => (∀ vs h s, p.2 vs h = some s → Callable P p.1 ∧ Triple P p.1 vs h (outR rs s).1 (outR rs s).2) ∧ AllD P rs r

theorem dynD_good {P : Program} {rs : List SK} {f : Nat} {vs : List V} {h : H} {s : Tup rs H} : ∀ {l : List (Nat × (List V → H → Option (Tup rs H)))}, AllD P rs l → dynD rs l f vs h = some s → Callable P f ∧ Triple P f vs h (outR rs s).1 (outR rs s).2
  | [], _, he => by cases he
  | p :: r, hl, he => by
    simp only [dynD] at he
    split at he
    · rename_i hb
      have := Nat.eq_of_beq_eq_true hb
      subst this
      exact hl.1 vs h s he
    · exact dynD_good hl.2 he

theorem dyn_good {P : Program} {k : Nat} {rs : List SK} {l : List (Nat × (List V → H → Option (Tup rs H)))} (hl : AllD P rs l) : CalOk P k (.dyn (dynF rs l)) := fun x vs h s he => by
  obtain ⟨p, hp, he⟩ := Option.bind_eq_some_iff.1 he
  have hx : x = .fn p.1 p.2 := by
    cases x <;> simp only [asFn] at hp <;> cases hp
    rfl
  exact ⟨p.1, p.2, hx, dynD_good hl he⟩

def labs : Code → List (Nat × Code)
  | .seq a b => (labs a).map (fun p => (p.1, .seq p.2 b)) ++ labs b
  | .label l => [(l, .skip)]
  | _ => []

theorem labs_mem {l : Nat} : ∀ {c rest : Code}, findLabel c l = some rest → (l, rest) ∈ labs c
  | .seq a b, rest, hf => by
    simp only [findLabel] at hf
    split at hf
    · rename_i r hr
      cases hf
      exact List.mem_append_left _ (List.mem_map.2 ⟨_, labs_mem hr, rfl⟩)
    · exact List.mem_append_right _ (labs_mem hf)
  | .label l', rest, hf => by
    simp only [findLabel] at hf
    split at hf
    · rename_i h
      cases hf
      have : l' = l := by simpa using h
      subst this
      simp [labs]
    · cases hf
  | .skip, rest, hf => by cases hf
  | .region .., rest, hf => by cases hf
  | .cond .., rest, hf => by cases hf
  | .block .., rest, hf => by cases hf
  | .loop .., rest, hf => by cases hf
  | .rangeFunc .., rest, hf => by cases hf
  | .exit .., rest, hf => by cases hf
  | .scope .., rest, hf => by cases hf
  | .goto .., rest, hf => by cases hf
  | .ret, rest, hf => by cases hf
  | .refuse .., rest, hf => by cases hf

inductive LIt where
  | loop (c : Code)
  | lab (l : Nat) (c : Code)

def itsOf : Code → List LIt
  | .seq a b => itsOf a ++ itsOf b
  | .cond _ a b => itsOf a ++ itsOf b
  | .block _ c => itsOf c
  | .loop c => .loop c :: itsOf c
  | .scope c => (labs c).map (fun p => .lab p.1 p.2) ++ itsOf c
  | _ => []

def LAll (E : Env) (N : Nat) : List LIt → Prop
  | [] => True
  | .loop c :: r => (∀ A, E.lp (lid c) = some A → LoopOk E N c A) ∧ LAll E N r
  | .lab l c :: r => (∀ A, E.lp (lbKey l) = some A → LabelOk E N l c A) ∧ LAll E N r

theorem lAll_append {E : Env} {N : Nat} : ∀ {a b : List LIt}, LAll E N (a ++ b) → LAll E N a ∧ LAll E N b
  | [], _, h => ⟨trivial, h⟩
  | .loop _ :: _, _, h => ⟨⟨h.1, (lAll_append h.2).1⟩, (lAll_append h.2).2⟩
  | .lab _ _ :: _, _, h => ⟨⟨h.1, (lAll_append h.2).1⟩, (lAll_append h.2).2⟩

theorem lAll_lab {E : Env} {N : Nat} {l : Nat} {c : Code} : ∀ {ps : List (Nat × Code)}, LAll E N (ps.map fun p => .lab p.1 p.2) → (l, c) ∈ ps → ∀ A, E.lp (lbKey l) = some A → LabelOk E N l c A
  | p :: ps, h, hm => by
    rcases List.mem_cons.1 hm with e | hm
    · subst e; exact h.1
    · exact lAll_lab h.2 hm

theorem lgood_of {E : Env} {N : Nat} : ∀ (c : Code), LAll E N (itsOf c) → LGood E N c
  | .seq a b, h => ⟨lgood_of a (lAll_append h).1, lgood_of b (lAll_append h).2⟩
  | .cond _ a b, h => ⟨lgood_of a (lAll_append h).1, lgood_of b (lAll_append h).2⟩
  | .block _ c, h => lgood_of c h
  | .loop c, h => ⟨lgood_of c h.2, h.1⟩
  | .scope c, h => ⟨lgood_of c (lAll_append h).2, fun _ _ A hf hA => lAll_lab (lAll_append h).1 (labs_mem hf) A hA⟩
  | .skip, _ | .region .., _ | .exit _, _ | .ret, _ | .goto _, _ | .label _, _ | .rangeFunc .., _ | .refuse _, _ => trivial

theorem loopOk_of {E : Env} {N : Nat} {c : Code} {A : LoopA} (hA : E.lp (lid c) = some A) (h0 : ∀ s, A.L 0 s = none) (h1 : ∀ n s, A.L (n + 1) s = ev E N c (A.head.dec s) (A.next n)) :
    ∀ A, E.lp (lid c) = some A → LoopOk E N c A := fun B hB => by
  rw [hA] at hB
  cases hB
  exact ⟨h0, h1⟩

theorem labelOk_of {E : Env} {N : Nat} {l : Nat} {c : Code} {A : LoopA} (hA : E.lp (lbKey l) = some A) (h0 : ∀ s, A.L 0 s = none) (h1 : ∀ n s, A.L (n + 1) s = ev E N c (A.head.dec s) (A.back l n)) :
    ∀ A, E.lp (lbKey l) = some A → LabelOk E N l c A := fun B hB => by
  rw [hA] at hB
  cases hB
  exact ⟨h0, h1⟩

def LIt.code : LIt → Code
  | .loop c => c
  | .lab _ c => c

def loopAt (fn : Func) (j : Nat) : Code := (((fn.body.map itsOf).getD []).getD j (.loop .skip)).code

theorem loops_of {E : Env} {N : Nat} {fn : Func} (h : LAll E N ((fn.body.map itsOf).getD [])) : ∀ c, fn.body = some c → LGood E N c := fun c hc => by
  rw [hc] at h
  exact lgood_of c h

def GrownL (w w' : World) : Prop := w.keptBut w' (fun _ => False) ∧ (∀ a : Addr, a.block < w.heap.size → w'.frozen? a = w.frozen? a) ∧ w.heap.size ≤ w'.heap.size

theorem GrownL.frame {w w' : World} (h : GrownL w w') (may : MemPlace → Prop) : w.keptBut w' may := World.keptBut_mono (fun _ f => f.elim) h.1

theorem law_calls {P : Program} {f : FuncId} {args : List V} {h' : H} (ht : Triple P f args [] (.bool true) h') (w : World) (xs : Array Value) (hsz : xs.size = args.length)
    (hargs : ∀ (i : Nat) (a : V) (x : Value), args[i]? = some a → xs[i]? = some x → RelV (Ren.all w) a x) :
    Calls P f xs w fun e w' => e = .returned (.bool true) ∧ GrownL w w' ∧ ∀ b, b < w.heap.size → w'.heap[b]? = w.heap[b]? := by
  refine (ht (Ren.all w) w xs (relH_all w) hsz hargs).mono fun e w' he => ?_
  obtain ⟨ρ', x, rfl, hh, hs, hx⟩ := he
  cases hx
  have hold : ∀ b, b < w.heap.size → w'.heap[b]? = w.heap[b]? := fun b hb => step_all hs hh hb
  refine ⟨rfl, ⟨⟨hs.still.os, hs.still.output, fun i hi => ?_⟩, fun a ha => by rw [frz_frozen, frz_frozen, hold _ ha], hs.size⟩, hold⟩
  rw [hold i hi]
  cases hb : w.heap[i]? with
  | none => rfl
  | some ob =>
    cases ob with
    | cells c t fr => exact ⟨rfl, rfl, rfl, fun _ _ => rfl⟩
    | map es clock => exact .inr ⟨rfl, rfl⟩
    | _ => rfl

end
end Go.L

namespace Go.L
noncomputable section
open Go

def mkE (es : Nat) (cs : List V) : V := if es = 1 then cs.headD default else .agg cs

def dataV (P : Program) : Nat → TypeId → List V → Prop
  | 0, _, _ => False
  | n + 1, t, vs => match P.underlying t with
    | some .bool => ∃ b, vs = [.bool b]
    | some (.int k) => ∃ m, vs = [.int k m] ∧ (Lit.int k m).wf = true
    | some .string => ∃ s, vs = [.str s] ∧ s.size ≤ maxLen
    | some (.slice e) => ∃ xs, vs = [.rs (P.cellsOf e) xs] ∧ xs.length ≤ maxLen ∧ ∀ x ∈ xs, dataV P n e x.cells ∧ x = mkE (P.cellsOf e) x.cells
    | some (.struct fs) => vs.length = P.cellsOf t ∧ ∀ (i : Nat) (f : Field), fs[i]? = some f → dataV P n f.type ((vs.drop f.offset).take (P.cellsOf f.type))
    | some (.array m e) => vs.length = P.cellsOf t ∧ ∀ i, i < m → dataV P n e ((vs.drop (i * P.cellsOf e)).take (P.cellsOf e))
    | _ => False

mutual
def V.sz : V → Nat
  | .str s => s.size + 1
  | .rs _ xs => V.szs xs + 1
  | .agg cs => V.szs cs
  | _ => 1
def V.szs : List V → Nat
  | [] => 0
  | v :: r => v.sz + V.szs r
end

theorem szs_append : ∀ (a b : List V), V.szs (a ++ b) = V.szs a + V.szs b
  | [], b => by simp [V.szs]
  | v :: a, b => by simp only [List.cons_append, V.szs, szs_append a b]; omega

theorem szs_cells (v : V) : V.szs v.cells = v.sz := by
  cases v <;> simp [V.cells, V.szs, V.sz]

theorem szs_le : ∀ {xs : List V}, (∀ x ∈ xs, 1 ≤ x.sz) → xs.length ≤ V.szs xs
  | [], _ => by simp
  | x :: xs, h => by
    have := szs_le (xs := xs) fun y hy => h y (List.mem_cons_of_mem _ hy)
    have := h x (List.mem_cons_self ..)
    simp only [List.length_cons, V.szs]; omega

structure MuOk {K : Type} (mu : DataW K → Nat) : Prop where
  one : ∀ d, 1 ≤ mu d
  str : ∀ l : List UInt8, l.length + 1 ≤ mu (.lit (.string l))
  slice : ∀ es sp, (es.map mu).sum + 1 ≤ mu (.slice es sp)
  agg : ∀ ps, (ps.map mu).sum ≤ mu (.agg ps)

theorem szs_flatten {K : Type} {mu : DataW K → Nat} : ∀ (L : List (List V)) (ds : List (DataW K)), L.length = ds.length → (∀ (i : Nat) l d, L[i]? = some l → ds[i]? = some d → V.szs l ≤ mu d) → V.szs L.flatten ≤ (ds.map mu).sum
  | [], [], _, _ => by simp [V.szs]
  | l :: L, d :: ds, hl, h => by
    simp only [List.flatten_cons, szs_append, List.map_cons, List.sum_cons]
    have := h 0 l d rfl rfl
    have := szs_flatten L ds (by simpa using hl) fun i l d h1 h2 => h (i + 1) l d (by simpa using h1) (by simpa using h2)
    omega
  | [], _ :: _, hl, _ => by simp at hl
  | _ :: _, [], hl, _ => by simp at hl

theorem szs_list {K : Type} {mu : DataW K → Nat} : ∀ (xs : List V) (ds : List (DataW K)), xs.length = ds.length → (∀ (i : Nat) l d, xs[i]? = some l → ds[i]? = some d → l.sz ≤ mu d) → V.szs xs ≤ (ds.map mu).sum
  | [], [], _, _ => by simp [V.szs]
  | l :: L, d :: ds, hl, h => by
    simp only [V.szs, List.map_cons, List.sum_cons]
    have := h 0 l d rfl rfl
    have := szs_list L ds (by simpa using hl) fun i l d h1 h2 => h (i + 1) l d (by simpa using h1) (by simpa using h2)
    omega
  | [], _ :: _, hl, _ => by simp at hl
  | _ :: _, [], hl, _ => by simp at hl

def flatT (P : Program) : Nat → TypeId → Bool
  | 0, _ => false
  | n + 1, t => match P.underlying t with
    | some .bool | some (.int _) | some .string => true
    | some (.slice e) => flatT P n e && !(P.cellsOf e == 0)
    | some (.struct fs) => fs.toList.all fun f => flatT P n f.type
    | some (.array _ e) => flatT P n e
    | _ => false

structure RelC1 (ρ : Ren) (v : V) (x : Value) : Prop where
  rel : RelV ρ v x
  one : x.oneCell' = true
  leaf : v.cells = [v]

theorem flat_pieces {α : Type} : ∀ (lens : List Nat) (cs : List α), cs.length = lens.sum →
    ((List.range lens.length).map fun j => (cs.drop (lens.take j).sum).take (lens.getD j 0)).flatten = cs
  | [], cs, h => by
    have : cs = [] := List.eq_nil_of_length_eq_zero (by simpa using h)
    subst this; rfl
  | l :: r, cs, h => by
    simp only [List.sum_cons] at h
    have ih := flat_pieces r (cs.drop l) (by simp; omega)
    rw [List.length_cons, List.range_succ_eq_map, List.map_cons, List.map_map, List.flatten_cons]
    simp only [List.take_zero, List.sum_nil, List.drop_zero, List.getD_cons_zero]
    have e : ((fun j => (cs.drop ((l :: r).take j).sum).take ((l :: r).getD j 0)) ∘ Nat.succ) = fun j => ((cs.drop l).drop (r.take j).sum).take (r.getD j 0) := by
      funext j
      simp [List.drop_drop]
    rw [e, ih, List.take_append_drop]

theorem piece_flat {α : Type} : ∀ (L : List (List α)) (j : Nat) (x : List α), L[j]? = some x → ((L.flatten).drop ((L.map List.length).take j).sum).take x.length = x
  | [], j, x, h => by simp at h
  | l :: r, 0, x, h => by simp at h; subst h; simp
  | l :: r, j + 1, x, h => by
    simp only [List.getElem?_cons_succ] at h
    have := piece_flat r j x h
    simp only [List.map_cons, List.take_succ_cons, List.sum_cons, List.flatten_cons]
    rw [← List.drop_drop, List.drop_left]
    exact this

theorem choose_list {α : Type} {p : Nat → α → Prop} : ∀ (n : Nat), (∀ i, i < n → ∃ x, p i x) → ∃ L : List α, L.length = n ∧ ∀ i x, L[i]? = some x → p i x
  | 0, _ => ⟨[], rfl, by simp⟩
  | n + 1, h => by
    obtain ⟨L, hl, hL⟩ := choose_list n fun i hi => h i (by omega)
    obtain ⟨x, hx⟩ := h n (by omega)
    refine ⟨L ++ [x], by simp [hl], fun i y hy => ?_⟩
    by_cases hi : i < L.length
    · rw [List.getElem?_append_left hi] at hy; exact hL i y hy
    · rw [List.getElem?_append_right (by omega)] at hy
      have : i = n := by
        have := (List.getElem?_eq_some_iff.1 hy).1
        simp at this; omega
      subst this
      simp [hl] at hy
      subst hy; exact hx

inductive All2 {α β : Type} (R : α → β → Prop) : List α → List β → Prop
  | nil : All2 R [] []
  | cons {a b l m} : R a b → All2 R l m → All2 R (a :: l) (b :: m)

theorem All2.length {α β : Type} {R : α → β → Prop} {l : List α} {m : List β} (h : All2 R l m) : l.length = m.length := by
  induction h with
  | nil => rfl
  | cons _ _ ih => simp [ih]

theorem All2.append {α β : Type} {R : α → β → Prop} {l l' : List α} {m m' : List β} (h : All2 R l m) (h' : All2 R l' m') : All2 R (l ++ l') (m ++ m') := by
  induction h with
  | nil => exact h'
  | cons h1 _ ih => exact .cons h1 ih

theorem All2.get {α β : Type} {R : α → β → Prop} {l : List α} {m : List β} (h : All2 R l m) : ∀ (i : Nat) (a : α) (b : β), l[i]? = some a → m[i]? = some b → R a b := by
  induction h with
  | nil => simp
  | cons h1 _ ih =>
    intro i a b ha hb
    cases i with
    | zero => simp at ha hb; subst ha; subst hb; exact h1
    | succ i => simp at ha hb; exact ih i a b ha hb

theorem All2.flatten {α β : Type} {R : α → β → Prop} : ∀ {L : List (List α)} {M : List (List β)}, L.length = M.length → (∀ (i : Nat) (l : List α) (m : List β), L[i]? = some l → M[i]? = some m → All2 R l m) → All2 R L.flatten M.flatten
  | [], [], _, _ => .nil
  | l :: L, m :: M, hl, h => by
    simp only [List.flatten_cons]
    exact (h 0 l m rfl rfl).append (All2.flatten (by simpa using hl) fun i a b ha hb => h (i + 1) a b (by simpa using ha) (by simpa using hb))
  | [], _ :: _, hl, _ => by simp at hl
  | _ :: _, [], hl, _ => by simp at hl

section
variable {K : Type} {enc : TypeId × Value → K} {P : Program} {W : World}

theorem cells?_get {base : Nat} {a : Addr} {n : Nat} {cs : List Value} (h : W.cells? base a n = some cs) : cs.length = n ∧ ∀ i, i < n → W.cell? (a.add i) = cs[i]? := by
  unfold World.cells? at h
  split at h
  · exact ⟨by simpa using mapM_some_length h, fun i hi => mapM_some_get h i i (by simp [hi])⟩
  · cases h

theorem cell?_inv {a : Addr} {v : Value} (h : W.cell? a = some v) : ∃ c e fr, W.heap[a.block]? = some (.cells c e fr) ∧ a.spot = none ∧ c[a.off]? = some v := by
  unfold World.cell? at h
  split at h
  · rename_i c e fr hb
    split at h
    · cases h
    · rename_i hs
      exact ⟨c, e, fr, hb, by simpa using hs, h⟩
  · cases h

theorem mkE_cells {es : Nat} {vs : List V} {cs : List Value} (h : All2 (RelC1 (Ren.all W)) vs cs) (hl : cs.length = es) : (mkE es vs).cells = vs := by
  unfold mkE
  split
  · rename_i h1
    cases h with
    | nil => simp at hl; omega
    | cons hr h' =>
      cases h' with
      | nil => simp only [List.headD_cons]; exact hr.leaf
      | cons _ _ => simp at hl; omega
  · rfl

theorem data_of_trod (hK : Kids P (· < P.types.size)) {sp : Nat → Bool} {held : Bool} : ∀ (n fuel : Nat) (t : TypeId) (cs : List Value) (x : DataW K × List MemPlace), flatT P n t = true → t < P.types.size →
    DataW.trod enc P W 0 sp held fuel t cs = some x → ∃ vs, All2 (RelC1 (Ren.all W)) vs cs ∧ dataV P n t vs ∧ ∀ mu : DataW K → Nat, MuOk mu → V.szs vs ≤ mu x.1
  | 0, _, _, _, _, hf, _, _ => by cases hf
  | n + 1, fuel, t, cs, x, hf, ht, h => by
    have ih := data_of_trod hK (sp := sp) (held := held) n
    unfold flatT at hf
    cases hu : P.underlying t with
    | none => rw [hu] at hf; cases hf
    | some u =>
      rw [hu] at hf
      cases u with
      | bool =>
        obtain ⟨b, rfl, _⟩ := DataW.trod_bool hu h
        exact ⟨[.bool b], .cons ⟨.bool b, rfl, rfl⟩ .nil, by unfold dataV; rw [hu]; exact ⟨b, rfl⟩, fun mu hmu => by have := hmu.one x.1; simpa [V.szs, V.sz] using this⟩
      | int k =>
        obtain ⟨m, rfl, _, hw⟩ := DataW.trod_int hu h
        exact ⟨[.int k m], .cons ⟨.int k m, rfl, rfl⟩ .nil, by unfold dataV; rw [hu]; exact ⟨m, rfl, hw⟩, fun mu hmu => by have := hmu.one x.1; simpa [V.szs, V.sz] using this⟩
      | string =>
        obtain ⟨s, rfl, hx, hs⟩ := DataW.trod_string hu h
        exact ⟨[.str s], .cons ⟨.str s, rfl, rfl⟩ .nil, by unfold dataV; rw [hu]; exact ⟨s, rfl, hs⟩, fun mu hmu => by
          have := hmu.str s.data.toList
          rw [hx]
          have e : s.size = s.data.toList.length := by
            show s.data.size = _
            exact (Array.length_toList).symm
          simp only [V.szs, V.sz]; omega⟩
      | slice e =>
        simp only [Bool.and_eq_true] at hf
        have hes : P.cellsOf e ≠ 0 := by simpa using hf.2
        have he := hK.slice ht hu
        rcases DataW.trod_slice hu h with ⟨rfl, _⟩ | ⟨a, len, cap, elems, rest, m, _, rfl, hx, hb, hlc, hcm, hlen, hel, _, _⟩
        · exact ⟨[.rs (P.cellsOf e) []], .cons ⟨.rs0 _ none 0 (fun _ => rfl), rfl, rfl⟩ .nil, by unfold dataV; rw [hu]; exact ⟨[], rfl, by simp, by simp⟩, fun mu hmu => by have := hmu.one x.1; simpa [V.szs, V.sz] using this⟩
        · have key : ∀ i, i < len → ∃ v : V, ∃ ci : List Value, W.cells? 0 (a.add (i * P.cellsOf e)) (P.cellsOf e) = some ci ∧ All2 (RelC1 (Ren.all W)) v.cells ci ∧ dataV P n e v.cells ∧ v = mkE (P.cellsOf e) v.cells ∧ ∀ mu : DataW K → Nat, MuOk mu → ∀ y, elems[i]? = some y → v.sz ≤ mu y.1 := by
            intro i hi
            have h1 := hel i hi
            rw [List.getElem?_eq_getElem (by omega)] at h1
            obtain ⟨ci, hci, htr⟩ := Option.bind_eq_some_iff.1 h1
            obtain ⟨vs, hv1, hv2, hv3⟩ := ih m e ci _ hf.1 he htr
            have hc := mkE_cells hv1 (cells?_get hci).1
            refine ⟨mkE (P.cellsOf e) vs, ci, hci, by rw [hc]; exact hv1, by rw [hc]; exact hv2, by rw [hc], fun mu hmu y hy => ?_⟩
            rw [List.getElem?_eq_getElem (by omega)] at hy
            cases hy
            rw [← szs_cells, hc]
            exact hv3 mu hmu
          obtain ⟨xs, hxl, hxs⟩ := choose_list len key
          have hdat : dataV P (n + 1) t [.rs (P.cellsOf e) xs] := by
            unfold dataV; rw [hu]
            refine ⟨xs, rfl, by omega, fun x hx => ?_⟩
            obtain ⟨i, hi⟩ := List.getElem?_of_mem hx
            obtain ⟨_, _, _, h1, h2, _⟩ := hxs i x hi
            exact ⟨h1, h2⟩
          refine ⟨_, .cons ⟨?_, rfl, rfl⟩ .nil, hdat, fun mu hmu => ?_⟩
          case refine_2 =>
            have h1 := szs_list (mu := mu) xs (elems.map (·.1)) (by simp; omega) (fun i v d hv hd => by
              obtain ⟨_, _, _, _, _, h3⟩ := hxs i v hv
              rw [List.getElem?_map] at hd
              obtain ⟨y, hy, rfl⟩ := Option.map_eq_some_iff.1 hd
              exact h3 mu hmu y hy)
            have h2 := hmu.slice (elems.map (·.1)) (rest.map (·.1))
            rw [hx]
            simp only [V.szs, V.sz]
            omega
          by_cases h0 : len = 0
          · have hn : xs = [] := List.eq_nil_of_length_eq_zero (by omega)
            subst hn; subst h0
            exact .rs0 _ _ _ (by simp)
          · have cell : ∀ (i j : Nat), i < len → j < P.cellsOf e → ∃ v y x, xs[i]? = some v ∧ v.cells[j]? = some y ∧ W.cell? ((a.add (i * P.cellsOf e)).add j) = some x ∧ RelC1 (Ren.all W) y x ∧ v.cells.length = P.cellsOf e := by
              intro i j hi hj
              have hg : xs[i]? = some xs[i] := List.getElem?_eq_getElem (by omega)
              obtain ⟨ci, hci, hall, _, _, _⟩ := hxs i _ hg
              obtain ⟨hcl, hcg⟩ := cells?_get hci
              have hvl : (xs[i]).cells.length = P.cellsOf e := by rw [hall.length, hcl]
              have hy : (xs[i]).cells[j]? = some (xs[i]).cells[j] := List.getElem?_eq_getElem (by omega)
              have hx : ci[j]? = some ci[j] := List.getElem?_eq_getElem (by omega)
              exact ⟨_, _, _, hg, hy, (hcg j hj).trans hx, hall.get j _ _ hy hx, hvl⟩
            have addr : ∀ (i j : Nat), ∀ v, W.cell? ((a.add (i * P.cellsOf e)).add j) = some v → ∃ c e' fr, W.heap[a.block]? = some (.cells c e' fr) ∧ c[a.off + i * P.cellsOf e + j]? = some v := by
              intro i j v hv
              obtain ⟨c, e', fr, h1, h2, h3⟩ := cell?_inv hv
              refine ⟨c, e', fr, ?_, ?_⟩
              · unfold Addr.add at h1; split at h1 <;> (try split at h1) <;> exact h1
              · have : ((a.add (i * P.cellsOf e)).add j).off = a.off + i * P.cellsOf e + j := by
                  unfold Addr.add; split <;> split <;> simp_all
                rw [this] at h3; exact h3
            have hspot : a.spot = none := by
              obtain ⟨_, _, x, _, _, hx, _⟩ := cell 0 0 (by omega) (by omega)
              obtain ⟨_, _, _, _, h2, _⟩ := cell?_inv hx
              simpa [Addr.add] using h2
            obtain ⟨_, _, x0, _, _, hx0, _⟩ := cell 0 0 (by omega) (by omega)
            obtain ⟨c, e', fr, hblk, _⟩ := addr 0 0 x0 hx0
            have ha : a = ⟨a.block, a.off, none⟩ := by cases a; simp at hspot; subst hspot; rfl
            have hcell : ∀ (i j : Nat) (v : Value), W.cell? ((a.add (i * P.cellsOf e)).add j) = some v → c[a.off + i * P.cellsOf e + j]? = some v := by
              intro i j v hv
              obtain ⟨c2, e2, f2, h1, h2⟩ := addr i j v hv
              rw [hblk] at h1
              cases h1
              exact h2
            rw [ha, ← hxl]
            refine .rs _ xs a.block a.off c e' fr cap (by omega) hblk ?_ ?_ ?_ ?_
            · obtain ⟨_, _, x, _, _, hx, _⟩ := cell (len - 1) (P.cellsOf e - 1) (by omega) (by omega)
              have := (Array.getElem?_eq_some_iff.1 (hcell _ _ _ hx)).1
              have e1 : xs.length * P.cellsOf e = (len - 1) * P.cellsOf e + P.cellsOf e := by
                rw [hxl]
                have : len = len - 1 + 1 := by omega
                rw [this, Nat.add_mul, Nat.one_mul]; simp
              omega
            · intro v hv
              obtain ⟨i, hi⟩ := List.getElem?_of_mem hv
              have hil : i < len := by have := (List.getElem?_eq_some_iff.1 hi).1; omega
              obtain ⟨v', _, _, h1, _, _, _, h5⟩ := cell i 0 hil (by omega)
              rw [hi] at h1; cases h1; exact h5
            · intro i v j y x hi hy hx
              have hil : i < len := by have := (List.getElem?_eq_some_iff.1 hi).1; omega
              obtain ⟨ci, hci, hall, _, _, _⟩ := hxs i v hi
              have hjl : j < P.cellsOf e := by
                have := (List.getElem?_eq_some_iff.1 hy).1
                rw [hall.length, (cells?_get hci).1] at this; exact this
              obtain ⟨v', y', x', h1, h2, h3, h4, _⟩ := cell i j hil hjl
              rw [hi] at h1; cases h1
              rw [hy] at h2; cases h2
              have := hcell i j x' h3
              rw [hx] at this; cases this
              exact h4.rel
            · intro i x hi hx
              rw [hxl] at hi
              have hpos : 0 < P.cellsOf e := by omega
              have hq : i / P.cellsOf e < len := (Nat.div_lt_iff_lt_mul hpos).2 hi
              obtain ⟨_, _, x', _, _, h3, h4, _⟩ := cell (i / P.cellsOf e) (i % P.cellsOf e) hq (Nat.mod_lt _ hpos)
              have := hcell _ _ x' h3
              have e1 : a.off + i / P.cellsOf e * P.cellsOf e + i % P.cellsOf e = a.off + i := by
                have := Nat.div_add_mod i (P.cellsOf e)
                rw [Nat.mul_comm] at this
                omega
              rw [e1, hx] at this; cases this
              exact h4.one
      | struct fs =>
        obtain ⟨ys, m, _, hx, hcl, hyl, hys⟩ := DataW.trod_struct hu h
        obtain ⟨hty, hsum, hoff⟩ := hK.struct ht hu
        have hall : ∀ f ∈ fs.toList, flatT P n f.type = true := fun f hm => List.all_eq_true.1 hf f hm
        let lens := fs.toList.map fun f => P.cellsOf f.type
        have hlens : lens.length = fs.size := by simp [lens]
        have hpl : ∀ (j : Nat) (f : Field), fs[j]? = some f → (cs.drop f.offset).take (P.cellsOf f.type) = (cs.drop (lens.take j).sum).take (lens.getD j 0) := by
          intro j f hj
          have hj' : fs.toList[j]? = some f := by simpa using hj
          rw [hoff j f hj', ← List.map_take]
          simp only [lens, List.getD_eq_getElem?_getD, List.getElem?_map, hj', Option.map_some, Option.getD_some]
        have key : ∀ j, j < fs.size → ∃ l : List V, All2 (RelC1 (Ren.all W)) l ((cs.drop (lens.take j).sum).take (lens.getD j 0)) ∧ (∀ f, fs[j]? = some f → dataV P n f.type l) ∧ ∀ mu : DataW K → Nat, MuOk mu → ∀ y, ys[j]? = some y → V.szs l ≤ mu y.1 := by
          intro j hj
          have hf' : fs[j]? = some fs[j] := Array.getElem?_eq_getElem hj
          have h1 := hys j _ hf'
          rw [List.getElem?_eq_getElem (by omega)] at h1
          have hm : fs[j] ∈ fs.toList := by simp
          obtain ⟨vs, hv1, hv2, hv3⟩ := ih m _ _ _ (hall _ hm) (hty _ hm) h1
          rw [hpl j _ hf'] at hv1
          exact ⟨vs, hv1, (fun f hf => by rw [hf'] at hf; cases hf; exact hv2), fun mu hmu y hy => by
            rw [List.getElem?_eq_getElem (by omega)] at hy
            cases hy
            exact hv3 mu hmu⟩
        obtain ⟨L, hL, hLs⟩ := choose_list fs.size key
        have hfl := flat_pieces lens cs (by rw [hcl, hsum])
        have hrel : All2 (RelC1 (Ren.all W)) L.flatten cs := by
          rw [← hfl]
          refine All2.flatten (by simp [hL, hlens]) fun i l m' hl hm' => ?_
          have := (hLs i l hl).1
          rw [List.getElem?_map] at hm'
          have hi : i < lens.length := by have := (List.getElem?_eq_some_iff.1 hl).1; omega
          rw [List.getElem?_range hi] at hm'
          simp only [Option.map_some, Option.some.injEq] at hm'
          rw [← hm']; exact this
        have hLlen : L.map List.length = lens := by
          apply List.ext_getElem?
          intro i
          by_cases hi : i < fs.size
          · have hg : L[i]? = some L[i] := List.getElem?_eq_getElem (by omega)
            have hl := (hLs i _ hg).1.length
            rw [List.getElem?_map, hg]
            have hgl : lens[i]? = some (lens.getD i 0) := by
              rw [List.getD_eq_getElem?_getD, List.getElem?_eq_getElem (by omega)]; rfl
            rw [hgl]
            simp only [Option.map_some, Option.some.injEq]
            have hpiece := flat_pieces lens cs (by rw [hcl, hsum])
            rw [hl, List.length_take, List.length_drop]
            have hle : (lens.take i).sum + lens.getD i 0 ≤ cs.length := by
              rw [hcl, hsum]
              show _ ≤ lens.sum
              have e1 : lens = lens.take i ++ (lens.getD i 0 :: lens.drop (i + 1)) := by
                rw [List.getD_eq_getElem?_getD, List.getElem?_eq_getElem (by omega)]
                simp
              conv => rhs; rw [e1]
              simp only [List.sum_append, List.sum_cons]
              omega
            omega
          · rw [List.getElem?_eq_none (by simp; omega), List.getElem?_eq_none (by omega)]
        refine ⟨L.flatten, hrel, ?_, fun mu hmu => ?_⟩
        case refine_2 =>
          have h1 := szs_flatten (mu := mu) L (ys.map (·.1)) (by simp; omega) (fun i l d hl hd => by
            rw [List.getElem?_map] at hd
            obtain ⟨y, hy, rfl⟩ := Option.map_eq_some_iff.1 hd
            exact (hLs i l hl).2.2 mu hmu y hy)
          have h2 := hmu.agg (ys.map (·.1))
          rw [hx]; simp only at h1 h2 ⊢; omega
        unfold dataV
        rw [hu]
        refine ⟨by rw [hrel.length, hcl], fun i f hi => ?_⟩
        have hil : i < fs.size := (Array.getElem?_eq_some_iff.1 hi).1
        have hg : L[i]? = some L[i] := List.getElem?_eq_getElem (by omega)
        have hp := piece_flat L i _ hg
        have hi' : fs.toList[i]? = some f := by simpa using hi
        have hlen : (L[i]).length = P.cellsOf f.type := by
          have : (L.map List.length)[i]? = lens[i]? := by rw [hLlen]
          rw [List.getElem?_map, hg] at this
          simp only [lens, List.getElem?_map, hi', Option.map_some, Option.some.injEq] at this
          exact this
        rw [hLlen, hlen] at hp
        have ho : f.offset = (lens.take i).sum := by rw [hoff i f hi', ← List.map_take]
        rw [ho, hp]
        exact (hLs i _ hg).2.1 f hi
      | array m' e =>
        obtain ⟨ys, m, _, hx, hcl, hyl, hys⟩ := DataW.trod_array hu h
        obtain ⟨hte, hsz⟩ := hK.array ht hu
        have key : ∀ j, j < m' → ∃ l : List V, All2 (RelC1 (Ren.all W)) l ((cs.drop (j * P.cellsOf e)).take (P.cellsOf e)) ∧ dataV P n e l ∧ ∀ mu : DataW K → Nat, MuOk mu → ∀ y, ys[j]? = some y → V.szs l ≤ mu y.1 := by
          intro j hj
          have h1 := hys j hj
          rw [List.getElem?_eq_getElem (by omega)] at h1
          obtain ⟨vs, hv1, hv2, hv3⟩ := ih m _ _ _ hf hte h1
          exact ⟨vs, hv1, hv2, fun mu hmu y hy => by
            rw [List.getElem?_eq_getElem (by omega)] at hy
            cases hy
            exact hv3 mu hmu⟩
        obtain ⟨L, hL, hLs⟩ := choose_list m' key
        let lens := List.replicate m' (P.cellsOf e)
        have hsum : lens.sum = m' * P.cellsOf e := by simp [lens]
        have htk : ∀ j, j ≤ m' → (lens.take j).sum = j * P.cellsOf e := by
          intro j hj
          simp [lens, List.take_replicate, Nat.min_eq_left hj]
        have hgd : ∀ j, j < m' → lens.getD j 0 = P.cellsOf e := by
          intro j hj
          simp [lens, List.getD_eq_getElem?_getD, hj]
        have hfl := flat_pieces lens cs (by rw [hcl, hsz, hsum])
        have hrel : All2 (RelC1 (Ren.all W)) L.flatten cs := by
          rw [← hfl]
          refine All2.flatten (by simp [hL, lens]) fun i l m2 hl hm2 => ?_
          have hi : i < m' := by have := (List.getElem?_eq_some_iff.1 hl).1; omega
          have := (hLs i l hl).1
          rw [List.getElem?_map, List.getElem?_range (by simpa [lens] using hi)] at hm2
          simp only [Option.map_some, Option.some.injEq] at hm2
          rw [htk i (by omega), hgd i hi] at hm2
          rw [← hm2]; exact this
        have hLlen : L.map List.length = lens := by
          apply List.ext_getElem?
          intro i
          by_cases hi : i < m'
          · have hg : L[i]? = some L[i] := List.getElem?_eq_getElem (by omega)
            have hl := (hLs i _ hg).1.length
            rw [List.getElem?_map, hg]
            have hgl : lens[i]? = some (P.cellsOf e) := by simp [lens, hi]
            rw [hgl]
            simp only [Option.map_some, Option.some.injEq]
            rw [hl, List.length_take, List.length_drop, hcl, hsz]
            have : (i + 1) * P.cellsOf e ≤ m' * P.cellsOf e := Nat.mul_le_mul_right _ (by omega)
            rw [Nat.add_mul, Nat.one_mul] at this
            omega
          · rw [List.getElem?_eq_none (by simp; omega), List.getElem?_eq_none (by simp [lens]; omega)]
        refine ⟨L.flatten, hrel, ?_, fun mu hmu => ?_⟩
        case refine_2 =>
          have h1 := szs_flatten (mu := mu) L (ys.map (·.1)) (by simp; omega) (fun i l d hl hd => by
            rw [List.getElem?_map] at hd
            obtain ⟨y, hy, rfl⟩ := Option.map_eq_some_iff.1 hd
            exact (hLs i l hl).2.2 mu hmu y hy)
          have h2 := hmu.agg (ys.map (·.1))
          rw [hx]; simp only at h1 h2 ⊢; omega
        unfold dataV
        rw [hu]
        refine ⟨by rw [hrel.length, hcl], fun i hi => ?_⟩
        have hg : L[i]? = some L[i] := List.getElem?_eq_getElem (by omega)
        have hp := piece_flat L i _ hg
        have hlen : (L[i]).length = P.cellsOf e := by
          have : (L.map List.length)[i]? = lens[i]? := by rw [hLlen]
          rw [List.getElem?_map, hg] at this
          simpa [lens, hi] using this
        rw [hLlen, hlen, htk i (by omega)] at hp
        rw [hp]
        exact (hLs i _ hg).2.1
      | _ => cases hf

def argT (P : Program) (n : Nat) (t : TypeId) : Bool :=
  flatT P n t && decide (t < P.types.size) && match P.underlying t with
    | some (.struct _) | some (.array _ _) => true
    | _ => decide (P.cellsOf t = 1)

def argV (P : Program) (t : TypeId) (cs : List V) : V :=
  match P.underlying t with
  | some (.struct _) | some (.array _ _) => .agg cs
  | _ => cs.headD default

def dataA (P : Program) (n : Nat) : List TypeId → List V → Prop
  | [], as => as = []
  | t :: ts, as => ∃ cs r, as = argV P t cs :: r ∧ dataV P n t cs ∧ dataA P n ts r

theorem open_arg (hK : Kids P (· < P.types.size)) {sp : Nat → Bool} {held : Bool} {n : Nat} {r : Reach} {b0 : Nat} {t : TypeId} {v : Value} {d : DataW K} {ps : List MemPlace} (ht : argT P n t = true) (hval : Value.okWide P W r b0 t v)
    (hd : DataW.Trod enc P W 0 sp held t v d ps) : ∃ cs, dataV P n t cs ∧ RelV (Ren.all W) (argV P t cs) v ∧ ∀ mu : DataW K → Nat, MuOk mu → (argV P t cs).sz ≤ mu d := by
  obtain ⟨fuel, h⟩ := hd
  simp only [argT, Bool.and_eq_true, decide_eq_true_eq] at ht
  obtain ⟨vs, h1, h2, hsz⟩ := data_of_trod hK n fuel t _ _ ht.1.1 ht.1.2 h
  suffices hrel : RelV (Ren.all W) (argV P t vs) v by
    refine ⟨vs, h2, hrel, fun mu hmu => Nat.le_trans ?_ (hsz mu hmu)⟩
    unfold argV at hrel ⊢
    split
    · simp [V.sz]
    · simp [V.sz]
    · cases vs with
      | nil => exact absurd (hmu.one d) (fun h => by
          have := hsz mu hmu
          exact absurd h2 (by
            intro h2
            have hf := ht.1.1
            cases n with
            | zero => exact h2
            | succ n =>
              unfold dataV at h2
              unfold flatT at hf
              cases hu : P.underlying t with
              | none => rw [hu] at hf; cases hf
              | some u =>
                rw [hu] at h2 hf
                cases u <;> first
                  | (obtain ⟨_, h, _⟩ := h2; cases h; done)
                  | (obtain ⟨_, h⟩ := h2; cases h; done)
                  | (cases hf; done)
                  | (rename_i hns _; exact absurd hu (by simp_all)))) 
      | cons x r => simp [V.szs]
  have agg : ∀ cs : Array Value, v = .agg cs → RelV (Ren.all W) (.agg vs) v := by
    intro cs hv
    subst hv
    simp only [Value.cells] at h1
    refine .agg vs cs ?_ (fun i a x ha hx => (h1.get i a x ha (by simpa using hx)).rel) fun i x hx => ?_
    · have := h1.length; simpa using this.symm
    · have hi : i < vs.length := by
        have := (Array.getElem?_eq_some_iff.1 hx).1
        rw [h1.length]; simpa using this
      exact (h1.get i _ x (List.getElem?_eq_getElem hi) (by simpa using hx)).one
  have one : v.cells = #[v] → RelV (Ren.all W) (vs.headD default) v := by
    intro hv
    rw [hv] at h1
    cases h1 with
    | cons hr h' => exact hr.rel
  unfold argV
  have hf := ht.1.1
  cases n with
  | zero => cases hf
  | succ n =>
  unfold flatT at hf
  cases hu : P.underlying t with
  | none => rw [hu] at hf; cases hf
  | some u =>
    rw [hu] at hf
    cases u with
    | bool => obtain ⟨b, rfl⟩ := WideShapes.okWide_bool hu hval; exact one rfl
    | int k => obtain ⟨b, rfl⟩ := WideShapes.okWide_int hu hval; exact one rfl
    | string => obtain ⟨b, rfl⟩ := WideShapes.okWide_string hu hval; exact one rfl
    | slice e => obtain ⟨a, l, c, rfl⟩ := WideShapes.okWide_slice hu hval; exact one rfl
    | struct fs => obtain ⟨cs, hv, _⟩ := WideShapes.okWide_struct hu hval; exact agg cs hv
    | array m e =>
      unfold Value.okWide at hval
      rw [hu] at hval
      obtain ⟨cs, hv, _⟩ := hval
      exact agg cs hv
    | _ => cases hf

theorem open_args (hK : Kids P (· < P.types.size)) {sp : Nat → Bool} {held : Bool} {n : Nat} {r : Reach} {b0 : Nat} : ∀ {ts : List TypeId} {vs : List Value} {ds : List (DataW K)} {ps : List MemPlace}, (ts.all (argT P n)) = true →
    (∀ (j : Nat) t v, ts[j]? = some t → vs[j]? = some v → Value.okWide P W r b0 t v) → DataW.TrodAll enc P W 0 sp held ts vs ds ps →
    ∃ as : List V, vs.length = as.length ∧ dataA P n ts as ∧ (∀ (i : Nat) (a : V) (x : Value), as[i]? = some a → vs[i]? = some x → RelV (Ren.all W) a x) ∧ ∀ mu : DataW K → Nat, MuOk mu → V.szs as ≤ (ds.map mu).sum
  | [], [], [], _, _, _, _ => ⟨[], rfl, rfl, by simp, fun _ _ => by simp [V.szs]⟩
  | t :: ts, v :: vs, d :: ds, _, ht, hv, ⟨p, q, h1, h2, _⟩ => by
    simp only [List.all_cons, Bool.and_eq_true] at ht
    obtain ⟨cs, g1, g2, g3⟩ := open_arg hK ht.1 (hv 0 t v rfl rfl) h1
    obtain ⟨as, k1, k2, k3, k4⟩ := open_args hK ht.2 (fun j t v a b => hv (j + 1) t v (by simpa using a) (by simpa using b)) h2
    refine ⟨argV P t cs :: as, by simp [k1], ⟨cs, as, rfl, g1, k2⟩, fun i a x ha hx => ?_, fun mu hmu => by
      have := g3 mu hmu
      have := k4 mu hmu
      simp only [V.szs, List.map_cons, List.sum_cons]; omega⟩
    cases i with
    | zero => simp at ha hx; subst ha; subst hx; exact g2
    | succ i => simp at ha hx; exact k3 i a x ha hx

theorem again {W' : World} (hK : Kids P (· < P.types.size)) (hz : ∀ t e, t < P.types.size → P.underlying t = some (.slice e) → 0 < P.cellsOf e) (hold : ∀ b, b < W.heap.size → W'.heap[b]? = W.heap[b]?) :
    ∀ {ts : List TypeId} {vs : List Value} {ds : List (DataW K)} {ps : List MemPlace}, (∀ t ∈ ts, t < P.types.size) → DataW.TrodAll enc P W 0 (fun _ => true) true ts vs ds ps → (∀ p ∈ ps, p.block < W.heap.size) →
    ∀ sp : Nat → Bool, (∀ p ∈ ps, sp p.block = true) → DataW.TrodAll enc P W' 0 sp true ts vs ds ps := by
  intro ts vs ds ps hts h hlt sp hsp
  have h' : DataW.TrodAll enc P W' 0 (fun _ => true) true ts vs ds ps := by
    have carry : ∀ {ts : List TypeId} {vs : List Value} {ds : List (DataW K)} {ps : List MemPlace}, DataW.TrodAll enc P W 0 (fun _ => true) true ts vs ds ps → (∀ p ∈ ps, p.block < W.heap.size) → DataW.TrodAll enc P W' 0 (fun _ => true) true ts vs ds ps := by
      intro ts
      induction ts with
      | nil => intro vs ds ps h _; cases vs <;> cases ds <;> exact h
      | cons t ts ih =>
        intro vs ds ps h hlt
        cases vs with
        | nil => cases ds <;> exact h
        | cons v vs =>
          cases ds with
          | nil => exact h
          | cons d ds =>
            obtain ⟨p, q, ⟨m, h1⟩, h2, e⟩ := h
            subst e
            refine ⟨p, q, ⟨m, DataW.trod_carry m t _ _ h1 fun x hx => ?_⟩, ih h2 fun x hx => hlt x (List.mem_append_right _ hx), rfl⟩
            have hb := hold x.block (hlt x (List.mem_append_left _ hx))
            cases x with
            | cell b off => simp only [World.sameAt, World.cell?]; simp only [MemPlace.block] at hb; rw [hb]
            | map b => exact hb
    exact carry h hlt
  exact h'.respare hK hz hts hsp

end
end
end Go.L

namespace Go.L
noncomputable section
open Go Go.ChangeShapes Go.RowKit

theorem okWide_true {P : Program} {W' : World} {t : TypeId} (ht : P.underlying t = some .bool) (b : Bool) : Value.okWide P W' .any 0 t (.bool b) := okWide_bool_mk ht b

theorem post_same {K : Type} {enc : TypeId × Value → K} {P : Program} {f : Func} {s : ChangeSpec} {apart fresh handsOn again : Bool} {W W' : World} {args : Array Value} {v : Value} {ds gs : List (DataW K)} {before pa pv : List MemPlace}
    (hW : DataW.Whole enc P f.params.toList s.vars apart W args.toList ds gs before)
    (hres : ∀ (b : Nat) (sp : Nat → Bool) (hd : Bool), DataW.TrodAll enc P W' b sp hd f.resultTypes.toList (v.resultList f.resultTypes.size) (s.fn K (ds ++ gs)).results [])
    (hargs : ∀ sp : Nat → Bool, (∀ p ∈ before, sp p.block = true) → DataW.TrodAll enc P W' 0 sp true f.params.toList args.toList (s.fn K (ds ++ gs)).args pa)
    (hvars : ∀ sp : Nat → Bool, (∀ p ∈ before, sp p.block = true) → DataW.TrodVars enc P W' sp s.vars (s.fn K (ds ++ gs)).vars pv)
    (hps : before = pa ++ pv) (hk : W.keptBut W' (· ∈ before)) (hfz : ∀ a : Addr, a.block < W.heap.size → W'.frozen? a = W.frozen? a)
    (hok : ∀ (j : Nat) (t : TypeId) (r : Value), f.resultTypes[j]? = some t → (v.resultList f.resultTypes.size)[j]? = some r → Value.okWide P W' .any 0 t r) :
    s.post enc P f apart fresh handsOn again W args v W' := by
  have hold : ∀ p ∈ before, (fun b => decide (b < W.heap.size)) p.block = true := fun p hp => by simpa using hW.lt p hp
  refine ⟨ds, gs, before, [], pa, pv, hW, hres _ _ _, hargs _ hold, hvars _ hold, World.keptBut_mono (fun p hp => ⟨hp, ?_⟩) hk, fun _ => ?_⟩
  · rw [hps, List.mem_append] at hp
    exact Or.inr hp
  · have hlt := hW.lt
    obtain ⟨_, _, _, _, _, hz, hn⟩ := hW
    refine ⟨hok, _, _, ([] ++ pa) ++ pv, ⟨[] ++ pa, pv, trodAll_append (hargs _ (fun _ _ => rfl)) (hres _ _ _), hvars _ (fun _ _ => rfl), rfl, ?_, ?_⟩, ?_⟩
    · intro b off hp
      have hb : MemPlace.cell b off ∈ before := by rw [hps]; simpa using hp
      rw [hfz _ (hlt _ hb)]
      exact hz b off hb
    · intro ha
      have := hn ha
      rw [hps] at this
      simpa using this
    · intro p hp _
      rw [hps]
      simpa using hp

theorem row_callsU {K : Type} {enc : TypeId × Value → K} {P : Program} {f : FuncId} {fn : Func} {s : ChangeSpec} {apart fresh handsOn again' : Bool} {n : Nat} {tb : TypeId} (hl : laidOutB P = true) (hm : mapsRowed P = true)
    (hz : ((List.range P.types.size).all fun t => match P.underlying t with | some (.slice e) => decide (0 < P.cellsOf e) | _ => true) = true)
    (hres : fn.resultTypes = #[tb]) (hb : P.underlying tb = some .bool) (hts : fn.params.toList.all (argT P n) = true)
    (hspec : ∀ ds : List (DataW K), ds.length = fn.params.size → (s.fn K ds).results = [.lit (.bool true)] ∧ (s.fn K ds).args = ds ∧ (s.fn K ds).vars = []) (hvars : s.vars = [])
    {W : World} {base : Nat} {args : Array Value} {ds gs : List (DataW K)} {before : List MemPlace}
    (hval : ∀ (j : Nat) t v, fn.params[j]? = some t → args[j]? = some v → Value.okWide P W .any base t v) (hW : DataW.Whole enc P fn.params.toList s.vars apart W args.toList ds gs before)
    (main : ∀ as, dataA P n fn.params.toList as → (∀ mu : DataW K → Nat, MuOk mu → V.szs as ≤ (ds.map mu).sum) → ∃ h', Triple P f as [] (.bool true) h') :
    Calls P f args W fun e W' => ∃ v, e = .returned v ∧ s.post enc P fn apart fresh handsOn again' W args v W' := by
  have hK := kids_rows hl hm
  have hW' := hW
  obtain ⟨p, q, hA, hV, rfl, hfz, hnd⟩ := hW
  rw [hvars] at hV
  obtain ⟨rfl, rfl⟩ := trodVars_none hV
  have hlen := Go.trodAll_length hA
  obtain ⟨as, h1, h2, h3, h4⟩ := open_args hK (n := n) hts (fun j t v a b => hval j t v (by simpa using a) (by simpa using b)) hA
  obtain ⟨h', ht⟩ := main as h2 h4
  refine (law_calls ht W args (by simpa using h1) (fun i a x ha hx => h3 i a x ha (by simpa using hx))).mono fun e W' he => ?_
  obtain ⟨rfl, hg, hold⟩ := he
  have hsp := hspec ds (by simpa using hlen.2)
  refine ⟨_, rfl, post_same (pa := p) (pv := []) hW' (fun _ _ _ => ?_) (fun sp hs => ?_) (fun _ _ => ?_) rfl (hg.frame _) hg.2.1 (ok_one hres rfl (okWide_bool_mk hb _))⟩
  · rw [List.append_nil, hsp.1, hres]
    exact trodAll_cons_mk (shut_bool hb _) trodAll_mk0
  · rw [List.append_nil, hsp.2.1]
    refine again hK (fun t e ht hu => slices_full_of P hz t e ht hu) hold (fun t ht => ?_) hA (fun x hx => hW'.lt x (by simpa using hx)) sp (fun x hx => hs x (by simpa using hx))
    have := List.all_eq_true.1 hts t ht
    simp only [argT, Bool.and_eq_true, decide_eq_true_eq] at this
    exact this.1.2
  · rw [List.append_nil, hsp.2.2, hvars]
    rfl

theorem row_calls {K : Type} {enc : TypeId × Value → K} {P : Program} {f : FuncId} {fn : Func} {s : ChangeSpec} {apart fresh handsOn again' : Bool} {n : Nat} {tb : TypeId} (hl : laidOutB P = true) (hm : mapsRowed P = true)
    (hz : ((List.range P.types.size).all fun t => match P.underlying t with | some (.slice e) => decide (0 < P.cellsOf e) | _ => true) = true)
    (hres : fn.resultTypes = #[tb]) (hb : P.underlying tb = some .bool) (hts : fn.params.toList.all (argT P n) = true)
    (hspec : ∀ ds : List (DataW K), ds.length = fn.params.size → (s.fn K ds).results = [.lit (.bool true)] ∧ (s.fn K ds).args = ds ∧ (s.fn K ds).vars = []) (hvars : s.vars = [])
    {W : World} {base : Nat} {args : Array Value} {ds gs : List (DataW K)} {before : List MemPlace}
    (hval : ∀ (j : Nat) t v, fn.params[j]? = some t → args[j]? = some v → Value.okWide P W .any base t v) (hW : DataW.Whole enc P fn.params.toList s.vars apart W args.toList ds gs before)
    (main : ∀ as, dataA P n fn.params.toList as → ∃ h', Triple P f as [] (.bool true) h') :
    Calls P f args W fun e W' => ∃ v, e = .returned v ∧ s.post enc P fn apart fresh handsOn again' W args v W' :=
  row_callsU hl hm hz hres hb hts hspec hvars hval hW fun as h _ => main as h

end
end Go.L

namespace Go.L
noncomputable section
open Go

section
variable {P : Program} {n m : Nat} {t : TypeId} {ts : List TypeId} {as : List V}

theorem dataA_nil (h : dataA P n [] as) : as = [] := h

theorem dataA_int (hm : m = n + 1) {k : IntKind} (hu : P.underlying t = some (.int k)) (h : dataA P m (t :: ts) as) : ∃ z r, as = .int k z :: r ∧ (Lit.int k z).wf = true ∧ dataA P m ts r := by
  subst hm
  obtain ⟨cs, r, rfl, h1, h2⟩ := h
  unfold dataV at h1
  rw [hu] at h1
  obtain ⟨m, rfl, hw⟩ := h1
  exact ⟨m, r, by simp [argV, hu], hw, h2⟩

theorem dataA_str (hm : m = n + 1) (hu : P.underlying t = some .string) (h : dataA P m (t :: ts) as) : ∃ s r, as = .str s :: r ∧ s.size ≤ maxLen ∧ dataA P m ts r := by
  subst hm
  obtain ⟨cs, r, rfl, h1, h2⟩ := h
  unfold dataV at h1
  rw [hu] at h1
  obtain ⟨m, rfl, hw⟩ := h1
  exact ⟨m, r, by simp [argV, hu], hw, h2⟩

theorem dataA_slice (hm : m = n + 1) {e : TypeId} (hu : P.underlying t = some (.slice e)) (h : dataA P m (t :: ts) as) :
    ∃ xs r, as = .rs (P.cellsOf e) xs :: r ∧ xs.length ≤ maxLen ∧ (∀ x ∈ xs, dataV P n e x.cells ∧ x = mkE (P.cellsOf e) x.cells) ∧ dataA P m ts r := by
  subst hm
  obtain ⟨cs, r, rfl, h1, h2⟩ := h
  unfold dataV at h1
  rw [hu] at h1
  obtain ⟨xs, rfl, h3, h4⟩ := h1
  exact ⟨xs, r, by simp [argV, hu], h3, h4, h2⟩

theorem dataA_struct {fs : Array Field} (hu : P.underlying t = some (.struct fs)) (h : dataA P n (t :: ts) as) :
    ∃ cs r, as = .agg cs :: r ∧ dataV P n t cs ∧ dataA P n ts r := by
  obtain ⟨cs, r, rfl, h1, h2⟩ := h
  exact ⟨cs, r, by simp [argV, hu], h1, h2⟩

theorem dataV_int (hm : m = n + 1) {k : IntKind} {vs : List V} (hu : P.underlying t = some (.int k)) (h : dataV P m t vs) : ∃ z, vs = [.int k z] ∧ (Lit.int k z).wf = true := by
  subst hm
  unfold dataV at h
  rw [hu] at h
  exact h

theorem dataV_bool (hm : m = n + 1) {vs : List V} (hu : P.underlying t = some .bool) (h : dataV P m t vs) : ∃ b, vs = [.bool b] := by
  subst hm
  unfold dataV at h
  rw [hu] at h
  exact h

theorem dataV_str (hm : m = n + 1) {vs : List V} (hu : P.underlying t = some .string) (h : dataV P m t vs) : ∃ s, vs = [.str s] ∧ s.size ≤ maxLen := by
  subst hm
  unfold dataV at h
  rw [hu] at h
  exact h

theorem dataV_struct (hm : m = n + 1) {fs : Array Field} {vs : List V} (hu : P.underlying t = some (.struct fs)) (h : dataV P m t vs) :
    vs.length = P.cellsOf t ∧ ∀ (i : Nat) (f : Field), fs[i]? = some f → dataV P n f.type ((vs.drop f.offset).take (P.cellsOf f.type)) := by
  subst hm
  unfold dataV at h
  rw [hu] at h
  exact h

theorem wf64 {m : Int} (h : (Lit.int .i64 m).wf = true) : -9223372036854775808 ≤ m ∧ m ≤ 9223372036854775807 := by
  simpa [Lit.wf, IntKind.min, IntKind.max, IntKind.signed, IntKind.bits] using h

theorem list_of {α : Type} {g : α → V} : ∀ {xs : List V}, (∀ x ∈ xs, ∃ a, x = g a) → ∃ l : List α, xs = l.map g
  | [], _ => ⟨[], rfl⟩
  | x :: xs, h => by
    obtain ⟨a, ha⟩ := h x (List.mem_cons_self ..)
    obtain ⟨l, hl⟩ := list_of (g := g) (xs := xs) fun y hy => h y (List.mem_cons_of_mem _ hy)
    exact ⟨a :: l, by rw [ha, hl]; rfl⟩

theorem list_of' {α : Type} {g : α → V} {p : α → Prop} : ∀ {xs : List V}, (∀ x ∈ xs, ∃ a, x = g a ∧ p a) → ∃ l : List α, xs = l.map g ∧ ∀ a ∈ l, p a
  | [], _ => ⟨[], rfl, by simp⟩
  | x :: xs, h => by
    obtain ⟨a, ha, hp⟩ := h x (List.mem_cons_self ..)
    obtain ⟨l, hl, hl'⟩ := list_of' (g := g) (p := p) (xs := xs) fun y hy => h y (List.mem_cons_of_mem _ hy)
    refine ⟨a :: l, by rw [ha, hl]; rfl, fun b hb => ?_⟩
    rcases List.mem_cons.1 hb with rfl | hb
    · exact hp
    · exact hl' b hb

end
end
end Go.L

namespace Go.L
noncomputable section
open Go

theorem bs {α β : Type} (a : α) (f : α → Option β) : (some a).bind f = f a := by rw [Option.bind_some]
theorem bn {α β : Type} (f : α → Option β) : (none : Option α).bind f = none := by rw [Option.bind_none]
theorem itT {α : Type} (a b : α) : (if true = true then a else b) = a := by rw [if_pos rfl]
theorem itF {α : Type} (a b : α) : (if false = true then a else b) = b := by rw [if_neg (by simp)]
theorem ifT {α : Type} (a b : α) : (if True then a else b) = a := by rw [if_pos trivial]
theorem ifF {α : Type} (a b : α) : (if False then a else b) = b := by rw [if_neg (fun h => h)]
theorem eT (a : Int) : (a == a) = true := by simp
theorem eF {a b : Int} (h : a ≠ b) : (a == b) = false := by simp [h]
theorem nqT (a : Int) : (a != a) = false := by simp
theorem nqF {a b : Int} (h : a ≠ b) : (a != b) = true := by simp [h]
theorem dT {p : Prop} [Decidable p] (h : p) : decide p = true := by simp [h]
theorem dF {p : Prop} [Decidable p] (h : ¬ p) : decide p = false := by simp [h]
theorem nT : (!true) = false := by cases h : (!true) <;> simp_all
theorem nF : (!false) = true := by cases h : (!false) <;> simp_all
theorem g0 (a : V) (l : List V) : (a :: l)[0]? = some a := by simp
theorem gS (a : V) (l : List V) (n : Nat) : (a :: l)[n + 1]? = l[n]? := by simp

theorem asInt_some (k : IntKind) (n : Int) : asInt k (some (.int k n)) = some n := by simp [asInt]
theorem asBool_some (b : Bool) : asBool (some (.bool b)) = some b := rfl
theorem asStr_some (b : ByteArray) : asStr (some (.str b)) = some b := rfl

theorem rd_obj {h : H} {id v off i : Nat} {cs : List V} (ho : h[id]? = some (.cells v cs)) : rd h (.ptr id v off) i = cs[off + i]? := by simp [rd, ho]
theorem wr_obj {h : H} {id v off : Nat} {cs xs : List V} (ho : h[id]? = some (.cells v cs)) (hl : off + xs.length ≤ cs.length) : wr h (.ptr id v off) xs = some (h.set id (.cells v (splice cs off xs))) := by simp [wr, ho, hl]
theorem splice1 (cs : List V) (off : Nat) (x : V) : splice cs off [x] = cs.set off x := rfl
theorem rd_rptr (h : H) (cs : List V) (i : Nat) : rd h (.rptr cs) i = cs[i]? := by simp [rd]
theorem aidx_ptr {id v off n es : Nat} {i : Int} (h0 : 0 ≤ i) (hi : i < n) (he : es ≠ 0) : aidx (.ptr id v off) i n es = some (.ptr id v (off + i.toNat * es)) := by
  simp [aidx, h0, hi, he, padd]
theorem sidx_rs {es : Nat} {xs : List V} {i : Int} (h0 : 0 ≤ i) : sidx (.rs es xs) i es = (xs[i.toNat]?).map (fun v => .rptr v.cells) := by simp [sidx, h0]
theorem sidx_sl {id v off len es : Nat} {cap : Option Nat} {i : Int} (h0 : 0 ≤ i) (hi : i < len) : sidx (.sl id v off len es cap) i es = some (.ptr id v (off + i.toNat * es)) := by simp [sidx, h0, hi]
theorem slen_rs (es : Nat) (xs : List V) : slen (.rs es xs) = some (xs.length : Int) := by simp [slen]
theorem slen_sl (id v off len es : Nat) (cap : Option Nat) : slen (.sl id v off len es cap) = some (len : Int) := rfl

theorem wrapIn {x : Int} (h : -9223372036854775808 ≤ x ∧ x ≤ 9223372036854775807) : IntKind.i64.wrap x = x := IntWalk.i64_in x h

end
end Go.L

namespace Go.L
noncomputable section
open Go

def wfL : (l : LK) → l.T → Prop
  | .int k, n => (Lit.int k n).wf = true
  | .str, s => s.size ≤ maxLen
  | _, _ => True

def wfLs : (ls : List LK) → {E : Type} → TupL ls E → Prop
  | [], _, _ => True
  | l :: r, _, t => wfL l t.1 ∧ wfLs r t.2

def catL : (a : List LK) → {b : List LK} → TupL a Unit → TupL b Unit → TupL (a ++ b) Unit
  | [], _, _, y => y
  | _ :: r, _, x, y => (x.1, catL r x.2 y)

theorem catL_dec : ∀ (a : List LK) {b : List LK} (x : TupL a Unit) (y : TupL b Unit), (decLs (a ++ b) (catL a x y)).1 = (decLs a x).1 ++ (decLs b y).1
  | [], _, x, y => rfl
  | l :: r, b, x, y => by
    show l.toV x.1 :: (decLs (r ++ b) (catL r x.2 y)).1 = l.toV x.1 :: (decLs r x.2).1 ++ (decLs b y).1
    rw [catL_dec r x.2 y, List.cons_append]

theorem catL_wf : ∀ (a : List LK) {b : List LK} (x : TupL a Unit) (y : TupL b Unit), wfLs a x → wfLs b y → wfLs (a ++ b) (catL a x y)
  | [], _, _, _, _, h => h
  | _ :: r, _, x, y, h, h' => ⟨h.1, catL_wf r x.2 y h.2 h'⟩

section
variable {P : Program}

theorem collect_of {f : TypeId → Option (List LK)} : ∀ (ts : List TypeId) (ls : List LK) (vss : List (List V)), collect f ts = some ls → vss.length = ts.length →
    (∀ (j : Nat) (t : TypeId) (vs : List V) (l : List LK), ts[j]? = some t → vss[j]? = some vs → f t = some l → ∃ x : TupL l Unit, (decLs l x).1 = vs ∧ wfLs l x) →
    ∃ x : TupL ls Unit, (decLs ls x).1 = vss.flatten ∧ wfLs ls x
  | [], ls, vss, hc, hl, _ => by
    cases hc
    have : vss = [] := List.eq_nil_of_length_eq_zero (by simpa using hl)
    subst this
    exact ⟨(), rfl, trivial⟩
  | t :: ts, ls, vss, hc, hl, h => by
    cases vss with
    | nil => simp at hl
    | cons vs vss =>
      obtain ⟨a, ha, hc⟩ := Option.bind_eq_some_iff.1 hc
      obtain ⟨b, hb, hc⟩ := Option.bind_eq_some_iff.1 hc
      cases hc
      obtain ⟨x, hx, wx⟩ := h 0 t vs a rfl rfl ha
      obtain ⟨y, hy, wy⟩ := collect_of ts b vss hb (by simpa using hl) fun j t vs l h1 h2 h3 => h (j + 1) t vs l (by simpa using h1) (by simpa using h2) h3
      exact ⟨catL a x y, by rw [catL_dec, hx, hy, List.flatten_cons], catL_wf a x y wx wy⟩

theorem leaves_of (hK : Kids P (· < P.types.size)) : ∀ (n m : Nat) (t : TypeId) (vs : List V) (ls : List LK), dataV P n t vs → leaves P m t = some ls → t < P.types.size → ∃ x : TupL ls Unit, (decLs ls x).1 = vs ∧ wfLs ls x
  | 0, _, _, _, _, h, _, _ => h.elim
  | n + 1, 0, _, _, _, _, hl, _ => by cases hl
  | n + 1, m + 1, t, vs, ls, h, hl, ht => by
    unfold dataV at h
    unfold leaves at hl
    cases hu : P.underlying t with
    | none => rw [hu] at h; exact h.elim
    | some u =>
      rw [hu] at h hl
      cases u with
      | bool => cases hl; obtain ⟨b, rfl⟩ := h; exact ⟨(b, ()), rfl, trivial, trivial⟩
      | int k => cases hl; obtain ⟨b, rfl, hw⟩ := h; exact ⟨(b, ()), rfl, hw, trivial⟩
      | string => cases hl; obtain ⟨b, rfl, hw⟩ := h; exact ⟨(b, ()), rfl, hw, trivial⟩
      | slice e => cases hl; obtain ⟨xs, rfl, _⟩ := h; exact ⟨(V.rs (P.cellsOf e) xs, ()), rfl, trivial, trivial⟩
      | struct fs =>
        obtain ⟨hlen, hf⟩ := h
        obtain ⟨hty, hsum, hoff⟩ := hK.struct ht hu
        let lens := fs.toList.map fun f => P.cellsOf f.type
        have hfl := flat_pieces lens vs (by rw [hlen, hsum])
        have := collect_of (f := leaves P m) (fs.toList.map (·.type)) ls ((List.range lens.length).map fun j => (vs.drop (lens.take j).sum).take (lens.getD j 0)) hl (by simp [lens]) (fun j t' vs' l h1 h2 h3 => by
          rw [List.getElem?_map] at h1 h2
          have hj : j < fs.toList.length := by
            rcases Nat.lt_or_ge j fs.toList.length with h | h
            · exact h
            · rw [List.getElem?_eq_none h] at h1; cases h1
          have hfj : fs.toList[j]? = some fs.toList[j] := List.getElem?_eq_getElem hj
          rw [hfj] at h1
          simp only [Option.map_some, Option.some.injEq] at h1
          subst h1
          rw [List.getElem?_range (by simp only [lens, List.length_map]; exact hj)] at h2
          simp only [Option.map_some, Option.some.injEq] at h2
          have e1 : (vs.drop (lens.take j).sum).take (lens.getD j 0) = (vs.drop (fs.toList[j]).offset).take (P.cellsOf (fs.toList[j]).type) := by
            rw [hoff j _ hfj, ← List.map_take]
            simp only [lens, List.getD_eq_getElem?_getD, List.getElem?_map, hfj, Option.map_some, Option.getD_some]
          rw [e1] at h2
          subst h2
          exact leaves_of hK n m _ _ _ (hf j _ (by simp)) h3 (hty _ (List.getElem_mem hj)))
        rw [hfl] at this
        exact this
      | array k e => cases hl
      | _ => exact h.elim

end
end
end Go.L

namespace Go.L
noncomputable section
open Go

def oid (v : V) : Option Nat :=
  match v with
  | .sl id .. => some id
  | .ptr id .. => some id
  | .map id => some id
  | _ => none

inductive Sl (h : H) (es : Nat) : V → List (List V) → Prop
  | nil : Sl h es .nils []
  | sl (id ver off : Nat) (cap : Option Nat) (cs : List V) (xs : List (List V)) (h1 : h[id]? = some (.cells ver cs)) (h2 : off + xs.length * es ≤ cs.length) (h3 : ∀ x ∈ xs, x.length = es)
      (h4 : (cs.drop off).take (xs.length * es) = xs.flatten) : Sl h es (.sl id ver off xs.length es cap) xs
  | rs (xs : List V) (h3 : ∀ x ∈ xs, x.cells.length = es) : Sl h es (.rs es xs) (xs.map V.cells)

theorem flatLen {α : Type} : ∀ {es : Nat} {xs : List (List α)}, (∀ x ∈ xs, x.length = es) → xs.flatten.length = xs.length * es
  | es, [], _ => by simp
  | es, x :: xs, h => by
    rw [List.flatten_cons, List.length_append, h x (List.mem_cons_self ..), flatLen fun y hy => h y (List.mem_cons_of_mem _ hy), List.length_cons, Nat.add_mul, Nat.one_mul, Nat.add_comm]

theorem flatGet {α : Type} : ∀ {es : Nat} {xs : List (List α)}, (∀ x ∈ xs, x.length = es) → ∀ (i j : Nat), j < es → (xs.flatten)[i * es + j]? = (xs[i]?).bind (·[j]?)
  | es, [], _, i, j, _ => by simp
  | es, x :: xs, h, 0, j, hj => by
    have hx := h x (List.mem_cons_self ..)
    rw [List.flatten_cons, List.getElem?_append_left (by omega)]
    simp
  | es, x :: xs, h, i + 1, j, hj => by
    have hx := h x (List.mem_cons_self ..)
    rw [List.flatten_cons, List.getElem?_append_right (by rw [hx, Nat.add_mul]; omega), hx]
    have : (i + 1) * es + j - es = i * es + j := by rw [Nat.add_mul]; omega
    rw [this, flatGet (fun y hy => h y (List.mem_cons_of_mem _ hy)) i j hj]
    simp

theorem flat_drop {α : Type} : ∀ {es : Nat} {xs : List (List α)}, (∀ x ∈ xs, x.length = es) → ∀ k, xs.flatten.drop (k * es) = (xs.drop k).flatten
  | es, xs, _, 0 => by simp
  | es, [], _, k + 1 => by simp
  | es, x :: xs, h, k + 1 => by
    have hx := h x (List.mem_cons_self ..)
    have e : (k + 1) * es = x.length + k * es := by rw [hx, Nat.add_mul]; omega
    rw [List.flatten_cons, e, ← List.drop_drop, List.drop_left, flat_drop (fun y hy => h y (List.mem_cons_of_mem _ hy)) k, List.drop_succ_cons]

theorem flat_take {α : Type} : ∀ {es : Nat} {xs : List (List α)}, (∀ x ∈ xs, x.length = es) → ∀ k, xs.flatten.take (k * es) = (xs.take k).flatten
  | es, xs, _, 0 => by simp
  | es, [], _, k + 1 => by simp
  | es, x :: xs, h, k + 1 => by
    have hx := h x (List.mem_cons_self ..)
    have e : (k + 1) * es = x.length + k * es := by rw [hx, Nat.add_mul]; omega
    rw [List.flatten_cons, e, List.take_append, List.take_succ_cons, List.flatten_cons]
    have e2 : x.length + k * es - x.length = k * es := by omega
    rw [e2, flat_take (fun y hy => h y (List.mem_cons_of_mem _ hy)) k, List.take_of_length_le (by omega)]

theorem flat_set {α : Type} : ∀ {es : Nat} {xs : List (List α)}, (∀ x ∈ xs, x.length = es) → ∀ (i : Nat) (y : List α), y.length = es → i < xs.length →
    xs.flatten.take (i * es) ++ (y ++ xs.flatten.drop (i * es + es)) = (xs.set i y).flatten
  | es, xs, h, i, y, hy, hi => by
    rw [flat_take h i]
    have e : i * es + es = (i + 1) * es := by rw [Nat.add_mul]; omega
    rw [e, flat_drop h (i + 1), List.set_eq_take_append_cons_drop, if_pos hi, List.flatten_append, List.flatten_cons]

section
variable {h : H} {es : Nat} {v : V} {xs : List (List V)}

theorem Sl.len (hs : Sl h es v xs) : slen v = some (xs.length : Int) := by
  cases hs with
  | nil => simp [slen]
  | sl => simp [slen]
  | rs => simp [slen]

theorem Sl.snlen (hs : Sl h es v xs) : snlen v = xs.length := by
  cases hs with
  | nil => simp [L.snlen]
  | sl => simp [L.snlen]
  | rs => simp [L.snlen]

theorem Sl.els (hs : Sl h es v xs) : ∀ x ∈ xs, x.length = es := by
  cases hs with
  | nil => simp
  | sl id ver off cap cs xs h1 h2 h3 h4 => exact h3
  | rs ys h3 =>
    intro x hx
    obtain ⟨y, hy, rfl⟩ := List.mem_map.1 hx
    exact h3 y hy

theorem Sl.at (hs : Sl h es v xs) (i : Nat) (hi : i < xs.length) : ∃ q, sidx v (i : Int) es = some q ∧ ∀ j, j < es → rd h q j = (xs[i]?).bind (·[j]?) := by
  cases hs with
  | nil => simp at hi
  | sl id ver off cap cs xs h1 h2 h3 h4 =>
    refine ⟨_, sidx_sl (by omega) (by omega), fun j hj => ?_⟩
    rw [rd_obj h1, Int.toNat_natCast, ← flatGet h3 i j hj, ← h4, List.getElem?_take, if_pos, List.getElem?_drop, Nat.add_assoc]
    have : (i + 1) * es ≤ xs.length * es := Nat.mul_le_mul_right _ hi
    rw [Nat.add_mul] at this
    omega
  | rs ys h3 =>
    have hi' : i < ys.length := by simpa using hi
    refine ⟨.rptr (ys[i]).cells, by rw [sidx_rs (by omega)]; simp [hi'], fun j hj => ?_⟩
    rw [rd_rptr]
    simp [hi']

theorem Sl.cells (hs : Sl h es v xs) : scells h v es = some xs.flatten := by
  cases hs with
  | nil => simp [scells]
  | sl id ver off cap cs xs h1 h2 h3 h4 => simp [scells, rdN, h1, h2, h4]
  | rs ys h3 => simp [scells, List.flatMap]

theorem Sl.cut (hs : Sl h es v xs) (lo hi : Nat) (h1 : lo ≤ hi) (h2 : hi ≤ xs.length) : ∃ v', ssl es v (lo : Int) (hi : Int) = some v' ∧ Sl h es v' ((xs.drop lo).take (hi - lo)) ∧ (oid v' = oid v ∨ oid v' = none) := by
  cases hs with
  | nil =>
    have h2' : hi = 0 := by simpa using h2
    subst h2'
    have : lo = 0 := by omega
    subst this
    exact ⟨.nils, by simp [ssl, esIs, scap, scut], by simpa using Sl.nil, .inl rfl⟩
  | sl id ver off cap cs xs k1 k2 k3 k4 =>
    have hl : ((xs.drop lo).take (hi - lo)).length = hi - lo := by simp; omega
    have hmul : hi * es ≤ xs.length * es := Nat.mul_le_mul_right _ h2
    have hmul2 : lo * es + (hi - lo) * es = hi * es := by rw [← Nat.add_mul]; congr 1; omega
    have hsl : Sl h es (.sl id ver (off + lo * es) ((xs.drop lo).take (hi - lo)).length es (cap.map (· - lo))) ((xs.drop lo).take (hi - lo)) := by
      refine .sl id ver _ _ cs _ k1 (by rw [hl]; omega) (fun x hx => k3 x (List.mem_of_mem_drop (List.mem_of_mem_take hx))) ?_
      rw [hl, ← flat_take (fun x hx => k3 x (List.mem_of_mem_drop hx)) (hi - lo), ← flat_drop k3 lo, ← k4]
      rw [List.drop_take, List.drop_drop, List.take_take]
      congr 1
      have : xs.length * es - lo * es ≥ (hi - lo) * es := by omega
      omega
    rw [hl] at hsl
    refine ⟨.sl id ver (off + lo * es) (hi - lo) es (cap.map (· - lo)), ?_, hsl, .inl rfl⟩
    have hc : (hi : Int) ≤ (scap (.sl id ver off xs.length es cap) : Nat) := by
      unfold scap
      cases cap <;> simp <;> omega
    simp only [ssl, esIs, beq_self_eq_true, if_true, scut, Int.toNat_natCast]
    rw [if_pos (by omega), if_pos (by omega), if_pos hc]
  | rs ys h3 =>
    have h2' : hi ≤ ys.length := by simpa using h2
    refine ⟨.rs es ((ys.drop lo).take (hi - lo)), ?_, ?_, .inr rfl⟩
    · have hc : (hi : Int) ≤ (scap (.rs es ys) : Nat) := by
        unfold scap; simp only; omega
      simp only [ssl, esIs, beq_self_eq_true, if_true, scut, Int.toNat_natCast]
      rw [if_pos (by omega), if_pos (by omega), if_pos hc]
    · have := Sl.rs (h := h) (es := es) ((ys.drop lo).take (hi - lo)) fun x hx => h3 x (List.mem_of_mem_drop (List.mem_of_mem_take hx))
      rw [List.map_take, List.map_drop] at this
      exact this

theorem Sl.frame (hs : Sl h es v xs) {h' : H} (hf : ∀ i, oid v = some i → h'[i]? = h[i]?) : Sl h' es v xs := by
  cases hs with
  | nil => exact .nil
  | sl id ver off cap cs xs h1 h2 h3 h4 => exact .sl id ver off cap cs xs (by rw [hf id rfl]; exact h1) h2 h3 h4
  | rs ys h3 => exact .rs ys h3

theorem Sl.lt (hs : Sl h es v xs) {i : Nat} (hi : oid v = some i) : i < h.length := by
  cases hs with
  | nil => cases hi
  | sl id ver off cap cs xs h1 h2 h3 h4 => cases hi; exact (List.getElem?_eq_some_iff.1 h1).1
  | rs ys h3 => cases hi

inductive Own (h : H) (es : Nat) : V → List (List V) → Prop
  | nil : Own h es .nils []
  | z (id : Nat) (h1 : h[id]? = some (.cells 0 [])) : Own h es (.sl id 0 0 0 es (some 0)) []
  | sl (id ver : Nat) (xs : List (List V)) (rest : List V) (h1 : h[id]? = some (.cells ver (xs.flatten ++ rest))) (h3 : ∀ x ∈ xs, x.length = es) : Own h es (.sl id ver 0 xs.length es none) xs

theorem Own.sl' (ho : Own h es v xs) : Sl h es v xs := by
  cases ho with
  | nil => exact .nil
  | z id h1 => exact .sl id 0 0 (some 0) [] [] h1 (by simp) (by simp) (by simp)
  | sl id ver xs rest h1 h3 => exact .sl id ver 0 none _ xs h1 (by rw [List.length_append, flatLen h3]; omega) h3 (by rw [List.drop_zero, ← flatLen h3, List.take_left])

theorem Own.frame (ho : Own h es v xs) {h' : H} (hf : ∀ i, oid v = some i → h'[i]? = h[i]?) : Own h' es v xs := by
  cases ho with
  | nil => exact .nil
  | z id h1 => exact .z id (by rw [hf id rfl]; exact h1)
  | sl id ver xs rest h1 h3 => exact .sl id ver xs rest (by rw [hf id rfl]; exact h1) h3

def Keeps (h h' : H) (o : Option Nat) : Prop := h.length ≤ h'.length ∧ ∀ i, i < h.length → o ≠ some i → h'[i]? = h[i]?

theorem Keeps.refl (h : H) (o : Option Nat) : Keeps h h o := ⟨Nat.le_refl _, fun _ _ _ => rfl⟩
theorem Keeps.none {h h' : H} {o : Option Nat} (k : Keeps h h' none) : Keeps h h' o := ⟨k.1, fun i hi _ => k.2 i hi (by simp)⟩
theorem Keeps.trans {a b c : H} {o : Option Nat} (k : Keeps a b o) (k' : Keeps b c o) : Keeps a c o :=
  ⟨Nat.le_trans k.1 k'.1, fun i hi ho => (k'.2 i (Nat.lt_of_lt_of_le hi k.1) ho).trans (k.2 i hi ho)⟩

theorem Keeps.push (h : H) (o : O) : Keeps h (h ++ [o]) .none := ⟨by simp, fun i hi _ => by rw [List.getElem?_append_left hi]⟩
theorem Keeps.set (h : H) (i : Nat) (o : O) : Keeps h (h.set i o) (some i) := ⟨by simp, fun j _ hj => by rw [List.getElem?_set_ne (fun e => hj (by rw [e]))]⟩

theorem Own.app (ho : Own h es v xs) (new : List (List V)) (hn : ∀ x ∈ new, x.length = es) (hb : (xs.length + new.length) * es ≤ mostCells) :
    ∃ v' h', happ h v es new.length new.flatten = some (v', h') ∧ Own h' es v' (xs ++ new) ∧ Keeps h h' (oid v) ∧ (oid v' = oid v ∨ oid v' = some h.length) ∧ ck1 v' = some () := by
  by_cases h0 : new.length = 0
  · have : new = [] := List.eq_nil_of_length_eq_zero h0
    subst this
    refine ⟨v, h, ?_, by simpa using ho, .refl _ _, .inl rfl, ?_⟩
    · cases ho <;> simp [happ, isSl]
    · cases ho <;> rfl
  · have hl := flatLen hn
    cases ho with
    | nil =>
      refine ⟨.sl h.length 0 0 new.length es none, h ++ [.cells 0 new.flatten], ?_, ?_, (Keeps.push h _), .inr rfl, rfl⟩
      · simp only [List.length_nil, Nat.zero_add] at hb
        simp only [happ, if_neg h0, hl, if_true, if_pos hb]
      · simp only [List.nil_append]
        exact .sl h.length 0 new [] (by simp) hn
    | z id h1 =>
      refine ⟨.sl h.length 0 0 (0 + new.length) es none, h ++ [.cells 0 new.flatten], ?_, ?_, (Keeps.push h _).none, .inr rfl, rfl⟩
      · simp only [List.length_nil, Nat.zero_add] at hb
        have h2 : ¬ 0 + new.length ≤ 0 := by omega
        simp only [happ, if_neg h0, hl, if_true, h1, Nat.zero_add, Nat.zero_mul, List.length_nil, Nat.le_refl, if_pos hb, List.drop_zero, List.take_zero, List.nil_append]
        rw [if_neg (by omega)]
      · simp only [List.nil_append, Nat.zero_add]
        exact .sl h.length 0 new [] (by simp) hn
    | sl id ver xs rest h1 h3 =>
      have hl2 := flatLen h3
      refine ⟨.sl id (ver + 1) 0 (xs.length + new.length) es none, h.set id (.cells (ver + 1) (xs.flatten ++ new.flatten)), ?_, ?_, Keeps.set h _ _, .inl rfl, rfl⟩
      · have e1 : 0 + xs.length * es ≤ (xs.flatten ++ rest).length := by rw [List.length_append]; omega
        have e2 : ((xs.flatten ++ rest).drop 0).take (xs.length * es) = xs.flatten := by rw [List.drop_zero, ← hl2, List.take_left]
        simp only [happ, if_neg h0, hl, if_true, h1, e1, e2, if_pos hb]
      · have hid : id < h.length := (List.getElem?_eq_some_iff.1 h1).1
        have := Own.sl (h := h.set id (.cells (ver + 1) (xs.flatten ++ new.flatten))) (es := es) id (ver + 1) (xs ++ new) [] (by simp [hid]) (fun x hx => by
          rcases List.mem_append.1 hx with hx | hx
          · exact h3 x hx
          · exact hn x hx)
        rw [List.length_append] at this
        exact this

theorem Own.app1 (ho : Own h es v xs) (new : List V) (hn : new.length = es) (hb : (xs.length + 1) * es ≤ mostCells) :
    ∃ v' h', happ h v es 1 new = some (v', h') ∧ Own h' es v' (xs ++ [new]) ∧ Keeps h h' (oid v) ∧ (oid v' = oid v ∨ oid v' = some h.length) ∧ ck1 v' = some () := by
  have := ho.app [new] (by simpa using hn) (by simpa using hb)
  simpa using this

theorem Own.wr (ho : Own h es v xs) (i : Nat) (hi : i < xs.length) (y : List V) (hy : y.length = es) (h1 : es ≠ 1) :
    ∃ q h', sidx v (i : Int) es = some q ∧ L.wr h q y = some h' ∧ Own h' es v (xs.set i y) ∧ Keeps h h' (oid v) := by
  cases ho with
  | nil => simp at hi
  | z => simp at hi
  | sl id ver xs rest k1 k3 =>
    have hl := flatLen k3
    have hm : (i + 1) * es ≤ xs.length * es := Nat.mul_le_mul_right _ hi
    rw [Nat.add_mul] at hm
    refine ⟨_, _, sidx_sl (by omega) (by omega), wr_obj k1 (by rw [List.length_append, hl, hy, Int.toNat_natCast]; omega), ?_, Keeps.set h _ _⟩
    have e : splice (xs.flatten ++ rest) (0 + Int.toNat (i : Int) * es) y = (xs.set i y).flatten ++ rest := by
      have : splice (xs.flatten ++ rest) (0 + Int.toNat (i : Int) * es) y = xs.flatten.take (i * es) ++ (y ++ xs.flatten.drop (i * es + es)) ++ rest := by
        unfold splice
        split
        · simp at hy; omega
        · rw [hy]
          simp only [Nat.zero_add, Int.toNat_natCast]
          rw [List.take_append_of_le_length (by omega), List.drop_append_of_le_length (by omega)]
          simp
      rw [this, flat_set k3 i y hy hi]
    rw [e]
    have hid : id < h.length := (List.getElem?_eq_some_iff.1 k1).1
    have := Own.sl (h := h.set id (.cells ver ((xs.set i y).flatten ++ rest))) (es := es) id ver (xs.set i y) rest (by simp [hid]) (fun x hx => by
      rcases List.mem_or_eq_of_mem_set hx with hx | rfl
      · exact k3 x hx
      · exact hy)
    rw [List.length_set] at this
    exact this

theorem repeatC_len {z : List V} : ∀ n, (repeatC n z).length = n * z.length
  | 0 => by simp [repeatC]
  | n + 1 => by rw [repeatC, List.length_append, repeatC_len n, Nat.add_mul]; omega

theorem splice_take {cs xs : List V} {at_ n : Nat} (hn : n ≤ at_) (hb : at_ ≤ cs.length) : (splice cs at_ xs).take n = cs.take n := by
  unfold splice
  split
  · rw [List.take_set_of_le hn]
  · rw [List.take_append_of_le_length (by rw [List.length_take]; omega), List.take_take, Nat.min_eq_left hn]

theorem splice_len {cs xs : List V} {at_ : Nat} (hb : at_ + xs.length ≤ cs.length) : (splice cs at_ xs).length = cs.length := by
  unfold splice
  split
  · simp
  · simp; omega

theorem Own.wipe (ho : Own h es v xs) (i : Nat) (hi : i ≤ xs.length) (z : List V) (hz : z.length = es) :
    ∃ v1 v2 h', ssl es v (i : Int) (xs.length : Int) = some v1 ∧ hwrAll h v1 es (repeatC (L.snlen v1) z) = some h' ∧ ssl es v 0 (i : Int) = some v2 ∧ Own h' es v2 (xs.take i) ∧ Keeps h h' (oid v) ∧ oid v2 = oid v := by
  cases ho with
  | nil =>
    have : i = 0 := by simpa using hi
    subst this
    exact ⟨.nils, .nils, h, by simp [ssl, esIs, scap, scut], by simp [hwrAll, repeatC, L.snlen], by simp [ssl, esIs, scap, scut], .nil, .refl _ _, rfl⟩
  | z id h1 =>
    have : i = 0 := by simpa using hi
    subst this
    exact ⟨.sl id 0 0 0 es (some 0), .sl id 0 0 0 es (some 0), h, by simp [ssl, esIs, scap, scut], by simp [hwrAll, repeatC, L.snlen], by simp [ssl, esIs, scap, scut], by simpa using Own.z id h1, .refl _ _, rfl⟩
  | sl id ver xs rest h1 h3 =>
    have hl := flatLen h3
    have hm : i * es ≤ xs.length * es := Nat.mul_le_mul_right _ hi
    have hm2 : i * es + (xs.length - i) * es = xs.length * es := by rw [← Nat.add_mul]; congr 1; omega
    have hid : id < h.length := (List.getElem?_eq_some_iff.1 h1).1
    have hL : (xs.flatten ++ rest).length = xs.length * es + rest.length := by rw [List.length_append, hl]
    have e1 : ssl es (.sl id ver 0 xs.length es none) (i : Int) (xs.length : Int) = some (.sl id ver (0 + i * es) (xs.length - i) es none) := by
      have hc : (xs.length : Int) ≤ (scap (.sl id ver 0 xs.length es none) : Nat) := by simp [scap]
      simp only [ssl, esIs, beq_self_eq_true, if_true, scut, Int.toNat_natCast, Option.map_none]
      rw [if_pos (by omega), if_pos (by omega), if_pos hc]
    have e2 : ssl es (.sl id ver 0 xs.length es none) 0 (i : Int) = some (.sl id ver 0 i es none) := by
      have hc : (i : Int) ≤ (scap (.sl id ver 0 xs.length es none) : Nat) := by simp [scap]; omega
      simp only [ssl, esIs, beq_self_eq_true, if_true, scut, Int.toNat_natCast, Option.map_none]
      rw [if_pos (by omega), if_pos (by omega), if_pos hc]; simp
    have hlt : (xs.take i).length = i := by rw [List.length_take]; omega
    have mk : ∀ cs' : List V, cs'.take (i * es) = (xs.flatten ++ rest).take (i * es) → ∀ h' : H, h'[id]? = some (.cells ver cs') → Own h' es (.sl id ver 0 i es none) (xs.take i) := by
      intro cs' k2 h' k3
      have := Own.sl (h := h') (es := es) id ver (xs.take i) (cs'.drop (i * es)) (by
        rw [k3, ← flat_take h3, ← List.take_append_of_le_length (l₂ := rest) (by omega), ← k2, List.take_append_drop]) (fun x hx => h3 x (List.mem_of_mem_take hx))
      rw [hlt] at this
      exact this
    have hrl := repeatC_len (z := z) (xs.length - i)
    rw [hz] at hrl
    cases hr : repeatC (xs.length - i) z with
    | nil =>
      refine ⟨_, _, h, e1, ?_, e2, mk _ rfl h h1, .refl _ _, rfl⟩
      simp [hwrAll, L.snlen, hr]
    | cons c cs =>
      rw [hr] at hrl
      refine ⟨_, _, h.set id (.cells ver (splice (xs.flatten ++ rest) (0 + i * es) (c :: cs))), e1, ?_, e2, mk (splice (xs.flatten ++ rest) (0 + i * es) (c :: cs)) ?_ _ ?_, Keeps.set h _ _, rfl⟩
      · simp only [hwrAll, L.snlen, hr, hrl, if_true, Nat.le_refl]
        rw [wr_obj h1 (by rw [hL, hrl]; omega)]
      · rw [splice_take (by omega) (by rw [hL]; omega)]
      · rw [List.getElem?_set_self hid]

end
end
end Go.L

namespace Go.L
open Go
noncomputable section

def cmpX : ByteArray × ByteArray × H → Option (Int × H)
  | (a, b, h) => some (Go.Lib.compareBytes a.data.toList b.data.toList, h)
def bitsX : Nat × H → Option (Int × H)
  | (b, h) => some ((b : Int), h)
def fromX : Int × H → Option (Nat × H)
  | (n, h) => some (n.toNat, h)

theorem two_str {ρ : Ren} {a b : ByteArray} {xs : Array Value} (hsz : xs.size = 2) (hrel : ∀ (i : Nat) (u : V) (x : Value), [V.str a, V.str b][i]? = some u → xs[i]? = some x → RelV ρ u x) : xs = #[.string a, .string b] := by
  have h0 : xs[0]? = some xs[0] := Array.getElem?_eq_getElem (by omega)
  have h1 : xs[1]? = some xs[1] := Array.getElem?_eq_getElem (by omega)
  have r0 := hrel 0 _ _ rfl h0
  have r1 := hrel 1 _ _ rfl h1
  apply Array.ext
  · simpa using hsz
  · intro i hi hi2
    have : i = 0 ∨ i = 1 := by omega
    rcases this with rfl | rfl
    · generalize xs[0] = x at r0; cases r0; rfl
    · generalize xs[1] = x at r1; cases r1; rfl

theorem one_val {xs : Array Value} (hsz : xs.size = 1) {x : Value} (hx : xs[0]? = some x) : xs = #[x] := by
  apply Array.ext
  · simpa using hsz
  · intro i hi hi2
    have : i = 0 := by omega
    subst this
    rw [Array.getElem?_eq_getElem hi] at hx
    simpa using hx

theorem ext_cmp {P : Program} {f : FuncId} {fn : Func} (hf : P.funcs[f]? = some fn) (hname : (fn.name == "runtime.NumGoroutine") = false) (hb : fn.body.isNone = true) (hn : Extern.findNext fn = none) (he : Extern.find fn = some Extern.BytealgCompare.compare) :
    CalOk P f (.ext (mkP [.one .str, .one .str] [.one (.int .i64)] cmpX)) := by
  intro vs s hs
  obtain ⟨t, ht, hs⟩ := Option.bind_eq_some_iff.1 hs
  obtain ⟨y, hy, hd⟩ := encVs_law _ vs _ t ht
  obtain ⟨a, b, h⟩ := t
  cases hs
  have hv : vs = [V.str a, V.str b] := by
    have := congrArg Prod.fst hd
    exact this.symm
  subst hv
  intro ρ w xs hsz hrel
  rw [two_str hsz hrel]
  refine ⟨.int .i64 (Go.Lib.compareBytes a.data.toList b.data.toList), ?_, .int _ _⟩
  have hc := Go.Lib.run_compareString (P := P) a b w
  have e := run_callFunc_extern hf hname hb hn he #[.string a, .string b] w
  rw [hc] at e
  exact e

theorem ext_bits {P : Program} {f : FuncId} {fn : Func} (hf : P.funcs[f]? = some fn) (hname : (fn.name == "runtime.NumGoroutine") = false) (hb : fn.body.isNone = true) (hn : Extern.findNext fn = none) (he : Extern.find fn = some Extern.MathFloatBits.float64bits) :
    CalOk P f (.ext (mkP [.one (.float .f64)] [.one (.int .u64)] bitsX)) := by
  intro vs s hs
  obtain ⟨t, ht, hs⟩ := Option.bind_eq_some_iff.1 hs
  obtain ⟨y, hy, hd⟩ := encVs_law _ vs _ t ht
  obtain ⟨b, h⟩ := t
  cases hs
  have hv : vs = [V.float .f64 b] := by
    have := congrArg Prod.fst hd
    exact this.symm
  subst hv
  intro ρ w xs hsz hrel
  have hpos : 0 < xs.size := by simp at hsz; omega
  have h0 : xs[0]? = some (xs[0]'hpos) := Array.getElem?_eq_getElem hpos
  have r0 := hrel 0 _ _ rfl h0
  have hx : xs[0]'hpos = .float .f64 b := by generalize xs[0]'hpos = x at r0; cases r0; rfl
  rw [hx] at h0
  rw [one_val (by simpa using hsz) h0]
  refine ⟨.int .u64 ((show Nat from b : Nat) : Int), ?_, .int _ _⟩
  rw [run_callFunc_extern hf hname hb hn he]
  rfl

theorem ext_from {P : Program} {f : FuncId} {fn : Func} (hf : P.funcs[f]? = some fn) (hname : (fn.name == "runtime.NumGoroutine") = false) (hb : fn.body.isNone = true) (hn : Extern.findNext fn = none) (he : Extern.find fn = some Extern.MathFloatBits.float64frombits) :
    CalOk P f (.ext (mkP [.one (.int .u64)] [.one (.float .f64)] fromX)) := by
  intro vs s hs
  obtain ⟨t, ht, hs⟩ := Option.bind_eq_some_iff.1 hs
  obtain ⟨y, hy, hd⟩ := encVs_law _ vs _ t ht
  obtain ⟨n, h⟩ := t
  cases hs
  have hv : vs = [V.int .u64 n] := by
    have := congrArg Prod.fst hd
    exact this.symm
  subst hv
  intro ρ w xs hsz hrel
  have hpos : 0 < xs.size := by simp at hsz; omega
  have h0 : xs[0]? = some (xs[0]'hpos) := Array.getElem?_eq_getElem hpos
  have r0 := hrel 0 _ _ rfl h0
  have hx : xs[0]'hpos = .int .u64 n := by generalize xs[0]'hpos = x at r0; cases r0; rfl
  rw [hx] at h0
  rw [one_val (by simpa using hsz) h0]
  refine ⟨.float .f64 (Int.toNat (show Int from n)), ?_, .float _ _⟩
  rw [run_callFunc_extern hf hname hb hn he]
  rfl

def truncX : Nat × H → Option (Nat × H)
  | (b, h) => match FloatKind.f64.decode b with
    | .nan _ t => if FloatKind.f64.format.quiet t = t then some (b, h) else none
    | d => some (FloatKind.f64.encode (d.integral .zero), h)

theorem trunc_at (nm : String) (b : Nat) (h : H) (s : Nat × H) (e : truncX (b, h) = some s) :
    Extern.MathFloor.toIntegral nm .zero #[.float .f64 b] = pure (.float .f64 s.1) := by
  change (match FloatKind.f64.decode b with
    | .nan s t =>
      if FloatKind.f64.format.quiet t = t then pure (Value.float .f64 b) else do
      let kept ← choose (.extern "math.Floor,Ceil,Trunc,RoundToEven.signallingNaN kept" 2)
      pure (.float .f64 (if kept == 1 then b else FloatKind.f64.encode (.nan s (FloatKind.f64.format.quiet t))))
    | d => pure (.float .f64 (FloatKind.f64.encode (d.integral .zero)))) = _
  simp only [truncX] at e
  cases hd : FloatKind.f64.decode b with
  | nan s' t =>
    rw [hd] at e
    simp only at e ⊢
    split at e
    · rename_i hq
      cases e
      rw [if_pos hq]
    · cases e
  | _ => rw [hd] at e; cases e; rfl

theorem ext_trunc {P : Program} {f : FuncId} {fn : Func} (hf : P.funcs[f]? = some fn) (hname : (fn.name == "runtime.NumGoroutine") = false) (hb : fn.body.isNone = true) (hn : Extern.findNext fn = none) (he : Extern.find fn = some (Extern.MathFloor.toIntegral "math.archTrunc" .zero)) :
    CalOk P f (.ext (mkP [.one (.float .f64)] [.one (.float .f64)] truncX)) := by
  intro vs s hs
  obtain ⟨t, ht, hs2⟩ := Option.bind_eq_some_iff.1 hs
  obtain ⟨y, hy, hd⟩ := encVs_law _ vs _ t ht
  obtain ⟨b, h⟩ := t
  have hv : vs = [V.float .f64 b] := by
    have := congrArg Prod.fst hd
    exact this.symm
  subst hv
  intro ρ w xs hsz hrel
  have hpos : 0 < xs.size := by simp at hsz; omega
  have h0 : xs[0]? = some (xs[0]'hpos) := Array.getElem?_eq_getElem hpos
  have r0 := hrel 0 _ _ rfl h0
  have hx : xs[0]'hpos = .float .f64 b := by generalize xs[0]'hpos = x at r0; cases r0; rfl
  rw [hx] at h0
  rw [one_val (by simpa using hsz) h0]
  refine ⟨.float .f64 (show Nat from s.1), ?_, .float _ _⟩
  rw [run_callFunc_extern hf hname hb hn he]
  rw [trunc_at "math.archTrunc" b h s hs2]
  rfl

end
end Go.L

