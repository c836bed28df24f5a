/- Operations in text order, flatly; and two of them the other way round. -/
import Derived.Test.YtkhnngghmlpbeaaGreatL27
namespace Go.L
noncomputable section

def wantS (ops : Array Oper) (o : Oper) (st : St) : Option Bool :=
  match o.guard with
  | none => some true
  | some (j, want) => match dstOf ops j with
    | none => none
    | some cj => match lk st.s cj with
      | .v (.bool b) => some (b == want)
      | .un => some false
      | _ => none

def stp (E : Env) (ops : Array Oper) (o : Oper) (st : St) : Option St :=
  match wantS ops o st with
  | some true => evOp E o st some
  | some false => fin E o st some .un st.l st.h
  | none => none

def flat (E : Env) (ops : Array Oper) : List Oper → St → Option St
  | [], st => some st
  | o :: r, st => (stp E ops o st).bind (flat E ops r)

theorem flat_append {E : Env} {ops : Array Oper} : ∀ (l l' : List Oper) (st : St), flat E ops (l ++ l') st = (flat E ops l st).bind (flat E ops l')
  | [], l', st => rfl
  | o :: l, l', st => by
    simp only [List.cons_append, flat]
    cases stp E ops o st with
    | none => rfl
    | some st' => exact flat_append l l' st'

structure St.le (st st2 : St) : Prop where
  s : ∀ i, S.le (lk st.s i) (lk st2.s i)
  l : ∀ t, lkl st2.l t = lkl st.l t
  h : st2.h = st.h

theorem St.le_refl (st : St) : St.le st st := ⟨fun _ => .inr rfl, fun _ => rfl, rfl⟩
theorem St.le_trans {a b c : St} (h : St.le a b) (h' : St.le b c) : St.le a c := ⟨fun i => S.le_trans (h.s i) (h'.s i), fun t => (h'.l t).trans (h.l t), h'.h.trans h.h⟩

def fixS (E : Env) (d : Nat) (x : S) : S :=
  match lpOk E d x with
  | true => x
  | false => .bad

theorem fixS_le {E : Env} {d : Nat} {x y : S} (h : S.le x y) : S.le (fixS E d x) (fixS E d y) := by
  rcases h with h | h
  · left; subst h; rfl
  · right; rw [h]

theorem lpOk_fix (E : Env) (d : Nat) (x : S) : lpOk E d (fixS E d x) = true := by
  unfold fixS
  split
  · assumption
  · rfl

def outS (E : Env) (o : Oper) (st : St) (x : S) (l : List (Nat × List V)) (h : H) : St :=
  match o.dst with
  | none => ⟨st.s, l, h⟩
  | some d => ⟨(d, fixS E d x) :: st.s, l, h⟩

theorem fin_out {R : Type} {E : Env} {o : Oper} {st : St} {K : St → Option R} {x : S} {l : List (Nat × List V)} {h : H} {r : R} (he : fin E o st K x l h = some r) :
    K (outS E o st x l h) = some r ∧ ∀ (st2 : St) (R2 : Type) (K2 : St → Option R2) (x2 : S) (l2 : List (Nat × List V)) (h2 : H), fin E o st2 K2 x2 l2 h2 = K2 (outS E o st2 x2 l2 h2) := by
  unfold fin at he ⊢
  unfold outS
  cases hd : o.dst with
  | none => rw [hd] at he; exact ⟨he, fun _ _ _ _ _ _ => rfl⟩
  | some d =>
    rw [hd] at he
    simp only at he ⊢
    cases hb : Nat.blt d E.n with
    | false => rw [hb] at he; cases he
    | true =>
      rw [hb] at he
      simp only at he ⊢
      constructor
      · unfold fixS
        split at he <;> (rename_i hl; rw [hl]; exact he)
      · intro st2 R2 K2 x2 l2 h2
        unfold fixS
        split <;> rename_i hl <;> rw [hl]

section
variable {E : Env} {ops : Array Oper}

theorem LpOk.out {o : Oper} {st : St} (h : LpOk E st) (x : S) (l : List (Nat × List V)) (h' : H) : LpOk E (outS E o st x l h') := by
  intro i
  unfold outS
  cases o.dst with
  | none => exact h i
  | some d =>
    show lpOk E i (lk ((d, fixS E d x) :: st.s) i) = true
    rw [lk_cons]
    by_cases e : d = i
    · subst e; rw [if_pos rfl]; exact lpOk_fix E d x
    · rw [if_neg e]; exact h i

structure AlikeG (E : Env) (ops : Array Oper) (o : Oper) (st st2 : St) : Prop where
  s : ∀ t ∈ o.looksAt ops, S.le (lk st.s t) (lk st2.s t)
  h : ∀ b, skey E o = some (none, b) → st2.h = st.h
  l : ∀ t b, skey E o = some (some t, b) → lkl st2.l t = lkl st.l t

theorem AlikeG.alike {o : Oper} {st st2 : St} (h : AlikeG E ops o st st2) : Alike E o st st2 where
  ops x hx := by
    cases x with
    | tmp t =>
      refine h.s t (List.mem_append_left _ (List.mem_filterMap.2 ⟨.tmp t, by simpa using hx, rfl⟩))
    | const v => exact .inr rfl
    | global g => exact .inr rfl
    | func f => exact .inr rfl
  h := h.h
  l := h.l

theorem wantS_alike {o : Oper} {st st2 : St} (h : AlikeG E ops o st st2) {b : Bool} (hw : wantS ops o st = some b) : wantS ops o st2 = some b := by
  unfold wantS at hw ⊢
  cases hg : o.guard with
  | none => rw [hg] at hw; exact hw
  | some p =>
    obtain ⟨j, want⟩ := p
    rw [hg] at hw
    simp only at hw ⊢
    cases hd : dstOf ops j with
    | none => rw [hd] at hw; cases hw
    | some cj =>
      rw [hd] at hw
      simp only at hw ⊢
      have hle : S.le (lk st.s cj) (lk st2.s cj) := h.s cj (List.mem_append_right _ (by
        unfold dstOf at hd
        simp [hg, hd]))
      have : lk st2.s cj = lk st.s cj := by
        rcases hle with h | h
        · rw [h] at hw; cases hw
        · exact h.symm
      rw [this]
      exact hw

theorem stp_shape {o : Oper} {st st1 : St} (hlp : LpOk E st) (h : stp E ops o st = some st1) :
    ∃ x l h', st1 = outS E o st x l h' ∧ ∀ st2, AlikeG E ops o st st2 → ∃ x2 l2 h2, S.le x x2 ∧ MemOk (skey E o) st st2 l h' l2 h2 ∧ stp E ops o st2 = some (outS E o st2 x2 l2 h2) := by
  unfold stp at h
  split at h
  · rename_i hw
    obtain ⟨x, l, h', he, hs⟩ := evOp_shape hlp h
    obtain ⟨e1, e2⟩ := fin_out he
    cases e1
    refine ⟨x, l, h', rfl, fun st2 ha => ?_⟩
    obtain ⟨x2, l2, h2, k1, k2, k3⟩ := hs st2 ha.alike
    refine ⟨x2, l2, h2, k1, k2, ?_⟩
    unfold stp
    rw [wantS_alike ha hw]
    exact (k3 St some).trans (e2 st2 St some x2 l2 h2)
  · rename_i hw
    obtain ⟨e1, e2⟩ := fin_out h
    cases e1
    refine ⟨.un, st.l, st.h, rfl, fun st2 ha => ⟨.un, st2.l, st2.h, .inr rfl, .same ha.h ha.l, ?_⟩⟩
    unfold stp
    rw [wantS_alike ha hw]
    exact e2 st2 St some _ _ _
  · cases h

theorem out_le {o : Oper} {st st2 : St} (hle : St.le st st2) {x x2 : S} (hx : S.le x x2) {l l2 : List (Nat × List V)} {h h2 : H} (hm : MemOk (skey E o) st st2 l h l2 h2) :
    St.le (outS E o st x l h) (outS E o st2 x2 l2 h2) := by
  have hl : ∀ t, lkl l2 t = lkl l t := by
    intro t
    rcases hm.l1 t with h | ⟨h, h'⟩
    · exact hm.le t h
    · rw [h, h', hle.l t]
  have hh : h2 = h := by
    rcases hm.h1 with h | ⟨h, h'⟩
    · exact hm.he h
    · rw [h, h', hle.h]
  unfold outS
  cases o.dst with
  | none => exact ⟨hle.s, hl, hh⟩
  | some d =>
    refine ⟨fun i => ?_, hl, hh⟩
    show S.le (lk ((d, fixS E d x) :: st.s) i) (lk ((d, fixS E d x2) :: st2.s) i)
    rw [lk_cons, lk_cons]
    by_cases e : d = i
    · rw [if_pos e, if_pos e]; exact fixS_le hx
    · rw [if_neg e, if_neg e]; exact hle.s i

theorem St.le.alikeG {st st2 : St} (h : St.le st st2) (o : Oper) : AlikeG E ops o st st2 := ⟨fun t _ => h.s t, fun _ _ => h.h, fun t _ _ => h.l t⟩

theorem flat_mono : ∀ (l : List Oper) {st st2 st' : St}, flat E ops l st = some st' → LpOk E st → St.le st st2 → ∃ st2', flat E ops l st2 = some st2' ∧ St.le st' st2'
  | [], st, st2, st', h, _, hle => by
    cases h
    exact ⟨st2, rfl, hle⟩
  | o :: l, st, st2, st', h, hlp, hle => by
    simp only [flat] at h
    obtain ⟨st1, h1, h2⟩ := Option.bind_eq_some_iff.1 h
    obtain ⟨x, lx, hx, rfl, hs⟩ := stp_shape hlp h1
    obtain ⟨x2, l2, h2', k1, k2, k3⟩ := hs st2 (hle.alikeG o)
    obtain ⟨sf, m1, m2⟩ := flat_mono l h2 (hlp.out _ _ _) (out_le hle k1 k2)
    exact ⟨sf, by simp only [flat, k3, Option.bind_some, m1], m2⟩

theorem flat_lp : ∀ (l : List Oper) {st st' : St}, flat E ops l st = some st' → LpOk E st → LpOk E st'
  | [], st, st', h, hlp => by cases h; exact hlp
  | o :: l, st, st', h, hlp => by
    simp only [flat] at h
    obtain ⟨st1, h1, h2⟩ := Option.bind_eq_some_iff.1 h
    obtain ⟨x, lx, hx, rfl, hs⟩ := stp_shape hlp h1
    exact flat_lp l h2 (hlp.out _ _ _)

theorem quiet_key {o : Oper} (h : quietL E o = true) (t : Nat) : skey E o ≠ some (some t, true) := by
  intro hk
  unfold quietL at h
  unfold skey at hk
  cases ho : o.op <;> simp only [ho] at hk h <;> (repeat' split at hk) <;> simp_all

theorem flat_kept : ∀ (l : List Oper) {st st' : St}, flat E ops l st = some st' → LpOk E st →
    (∀ i, (∀ o ∈ l, o.dst ≠ some i) → lk st'.s i = lk st.s i) ∧ ((∀ o ∈ l, quietL E o = true) → ∀ t, lkl st'.l t = lkl st.l t)
  | [], st, st', h, hlp => by cases h; exact ⟨fun _ _ => rfl, fun _ _ => rfl⟩
  | o :: l, st, st', h, hlp => by
    simp only [flat] at h
    obtain ⟨st1, h1, h2⟩ := Option.bind_eq_some_iff.1 h
    obtain ⟨x, lx, hx, rfl, hs⟩ := stp_shape hlp h1
    obtain ⟨k1, k2⟩ := flat_kept l h2 (hlp.out _ _ _)
    obtain ⟨x2, l2, h2', _, hm, _⟩ := hs st ((St.le_refl st).alikeG o)
    refine ⟨fun i hi => ?_, fun hq t => ?_⟩
    · rw [k1 i fun o' ho' => hi o' (List.mem_cons_of_mem _ ho')]
      have := hi o (List.mem_cons_self ..)
      unfold outS
      cases hd : o.dst with
      | none => rfl
      | some d =>
        show lk ((d, fixS E d x) :: st.s) i = _
        rw [lk_cons, if_neg (fun e => this (by rw [hd, e]))]
    · rw [k2 fun o' ho' => hq o' (List.mem_cons_of_mem _ ho')]
      have hl : (outS E o st x lx hx).l = lx := by unfold outS; cases o.dst <;> rfl
      rw [hl]
      rcases hm.l1 t with h | ⟨h, _⟩
      · exact absurd h (quiet_key (hq o (List.mem_cons_self ..)) t)
      · exact h

def kEq : Option Nat → Option Nat → Bool
  | none, none => true
  | some a, some b => Nat.beq a b
  | _, _ => false

def keysApart : Option (Option Nat × Bool) → Option (Option Nat × Bool) → Bool
  | some (a, w), some (b, w') => !(w || w') || !(kEq a b)
  | _, _ => true

theorem kEq_refl : ∀ a, kEq a a = true
  | none => rfl
  | some a => by simp [kEq]

theorem keysApart_spec {k k' : Option (Option Nat × Bool)} (h : keysApart k k' = true) : (∀ a b, k = some (a, true) → k' ≠ some (a, b)) ∧ (∀ a b, k' = some (a, true) → k ≠ some (a, b)) := by
  refine ⟨fun a b h1 h2 => ?_, fun a b h1 h2 => ?_⟩ <;> subst h1 <;> subst h2 <;> simp [keysApart, kEq_refl] at h

/-- An allocation whose place is kept ahead, and always wanted. -/
def fillOf (E : Env) (o : Oper) : Option Nat :=
  match o.op with
  | .makeSlice _ _ _ => match fzOf E o, o.guard with
    | false, none => rsOf E o
    | _, _ => none
  | _ => none

def fills (E : Env) (x y : Oper) : Bool :=
  match fillOf E x, fillOf E y with
  | some d, some d' => !(Nat.beq d d')
  | _, _ => false

/-- A load that is always wanted. -/
def loadOf (E : Env) (o : Oper) : Bool :=
  match o.op, o.guard with
  | .load _ _, none => !rlOf E o
  | _, _ => false

/-- A call, always wanted, that leaves all that was there. -/
def groOf (E : Env) (o : Oper) : Bool :=
  match o.op, o.guard with
  | .call c, none => match c.callee with
    | .value (.func f) => match E.cal f with
      | some (.gro _) => !fzOf E o
      | _ => false
    | _ => false
  | _, _ => false

def indep (E : Env) (ops : Array Oper) (x y : Oper) : Bool := x.apart ops y && ((keysApart (skey E x) (skey E y) || fills E x y) || (loadOf E x && groOf E y))

theorem rd_ext {h h2 : H} (g : Grows h h2) {p v : V} {i : Nat} (hr : rd h p i = some v) : rd h2 p i = some v := by
  cases p with
  | ptr id ver off =>
    simp only [rd] at hr ⊢
    split at hr
    · rename_i v0 cs ho
      rw [g.2 id (List.getElem?_eq_some_iff.1 ho).1, ho]
      exact hr
    · cases hr
  | _ => simpa only [rd] using hr

theorem rdN_ext {h h2 : H} (g : Grows h h2) {p : V} {cs : List V} {n : Nat} (hr : rdN h p n = some cs) : rdN h2 p n = some cs := by
  cases p with
  | ptr id ver off =>
    simp only [rdN] at hr ⊢
    split at hr
    · rename_i v0 cs ho
      rw [g.2 id (List.getElem?_eq_some_iff.1 ho).1, ho]
      exact hr
    · cases hr
  | _ => simpa only [rdN] using hr

theorem get_ext {st st2 : St} {x : S} (hl : ∀ t, lkl st2.l t = lkl st.l t) (g : Grows st.h st2.h) {i : Nat} {v : V} (h : st.get x i = some v) : st2.get x i = some v := by
  cases x with
  | lp t off => simp only [St.get, hl] at h ⊢; exact h
  | v p => exact rd_ext g h
  | p p => exact rd_ext g h
  | bad => simp [St.get] at h
  | un => simp [St.get] at h

theorem getN_ext {st st2 : St} {x : S} (hl : ∀ t, lkl st2.l t = lkl st.l t) (g : Grows st.h st2.h) {n : Nat} {cs : List V} (h : st.getN x n = some cs) : st2.getN x n = some cs := by
  cases x with
  | lp t off => simp only [St.getN, hl] at h ⊢; exact h
  | v p => exact rdN_ext g h
  | p p => exact rdN_ext g h
  | bad => simp [St.getN] at h
  | un => simp [St.getN] at h

theorem load_ext {R : Type} {o : Oper} {st : St} {K : St → Option R} {r : R} (hd : loadOf E o = true) (he : evOp E o st K = some r) :
    ∃ x, fin E o st K x st.l st.h = some r ∧ ∀ st2 : St, (∀ y ∈ o.op.operands, S.le (st.opnd y) (st2.opnd y)) → (∀ t, lkl st2.l t = lkl st.l t) → Grows st.h st2.h →
      ∀ (R2 : Type) (K2 : St → Option R2), evOp E o st2 K2 = fin E o st2 K2 x st2.l st2.h := by
  unfold loadOf at hd
  split at hd
  case h_2 => cases hd
  rename_i t a ho hg
  have hrl : rlOf E o = false := by simpa using hd
  have hbad : st.opnd a ≠ .bad := by
    intro hb
    unfold evOp at he
    simp only [ho, hrl, hb] at he
    split at he
    · rename_i l _
      obtain ⟨v, hv, _⟩ := dest_inv he
      simp [St.get] at hv
    · rename_i ls hls
      obtain ⟨vs, h1, h2, _⟩ := rdLs_inv he
      obtain ⟨_, _, c2⟩ := (tyOf_cases E.P 2 t).2.1 ls hls
      cases vs with
      | nil => simp at h1; omega
      | cons v vs => have := h2 0 v rfl; simp [St.get] at this
    · simp [St.getN] at he
    · cases he
  have same : ∀ st2 : St, (∀ y ∈ o.op.operands, S.le (st.opnd y) (st2.opnd y)) → st2.opnd a = st.opnd a := fun st2 hs => by
    rcases hs a (by simp [ho, Op.operands]) with h | h
    · exact absurd h hbad
    · exact h.symm
  unfold evOp at he
  simp only [ho, hrl] at he
  split at he
  · rename_i l hl
    obtain ⟨v0, h0, _⟩ := dest_inv he
    obtain ⟨v, he, hv⟩ := dest_thru _ _ _ _ _ he
    refine ⟨_, he, fun st2 hs hll g R2 K2 => ?_⟩
    unfold evOp
    simp only [ho, hrl, hl, same st2 hs, get_ext hll g h0]
    rw [h0] at hv
    exact hv R2 _
  · rename_i ls hl
    obtain ⟨v, he, hv⟩ := rdLs_thru _ _ _ _ _ _ he
    refine ⟨_, he, fun st2 hs hll g R2 K2 => ?_⟩
    unfold evOp
    simp only [ho, hrl, hl, same st2 hs]
    have h1 : rdLs ls (st.get (st.opnd a)) 0 (fun vs => some vs) = some v := hv _ _
    have h2 := rdLs_mono (g' := st2.get (st.opnd a)) (fun i u hu => get_ext hll g hu) h1
    obtain ⟨v', e1, e2⟩ := rdLs_thru _ _ _ _ _ _ h2
    cases e1
    exact e2 R2 _
  · rename_i n hl
    obtain ⟨cs, hc, he⟩ := Option.bind_eq_some_iff.1 he
    refine ⟨_, he, fun st2 hs hll g R2 K2 => ?_⟩
    unfold evOp
    simp only [ho, hrl, hl, same st2 hs, getN_ext hll g hc, Option.bind_some]
    rfl
  · cases he

theorem gro_ev (hE : Good E) {R : Type} {o : Oper} {st : St} {K : St → Option R} {r : R} (hd : groOf E o = true) (he : evOp E o st K = some r) :
    ∃ (v : V) (h' : H), Grows st.h h' ∧ fin E o st K (.v v) st.l h' = some r ∧
      ∀ st2 : St, (∀ x ∈ o.op.operands, S.le (st.opnd x) (st2.opnd x)) → st2.h = st.h → ∀ (R2 : Type) (K2 : St → Option R2), evOp E o st2 K2 = fin E o st2 K2 (.v v) st2.l h' := by
  unfold groOf at hd
  split at hd
  case h_2 => cases hd
  rename_i c ho hg
  split at hd
  case h_2 => cases hd
  rename_i f hc
  split at hd
  case h_2 => cases hd
  rename_i F hF
  have hfz : fzOf E o = false := by simpa using hd
  have hargs : ∀ x ∈ c.args.toList, x ∈ o.op.operands := fun x hx => by
    simp only [ho, Op.operands, Call.operands, Array.mem_append]; exact .inr (by simpa using hx)
  unfold evOp at he
  simp only [ho, hc] at he
  obtain ⟨vs, he, _, hv⟩ := argsK_thru _ _ _ _ _ he
  unfold callK at he
  simp only [hF, hfz] at he
  obtain ⟨q, h1, he⟩ := Option.bind_eq_some_iff.1 he
  obtain ⟨u, he, hu⟩ := tyDest_thru _ _ _ _ _ he
  obtain ⟨_, hgr⟩ := hE.cal f _ hF vs st.h q h1
  refine ⟨u, (F.out q).2, hgr, he, fun st2 hs hh R2 K2 => ?_⟩
  unfold evOp
  simp only [ho, hc]
  rw [hv st2 (fun x hx => hs x (hargs x hx)) R2 _]
  unfold callK
  simp only [hF, hfz, hh, h1, Option.bind_some]
  exact hu R2 _

theorem hfill_inv {h h' : H} {d : Nat} {cs : List V} (hf : hfill h d cs = some h') : h[h.length - d]? = some .rsv ∧ h' = h.set (h.length - d) (.cells 1 cs) := by
  unfold hfill at hf
  split at hf
  · rename_i hi; cases hf; exact ⟨hi, rfl⟩
  · cases hf

theorem fill_ev {R : Type} {o : Oper} {st : St} {K : St → Option R} {r : R} {d : Nat} (hd : fillOf E o = some d) (he : evOp E o st K = some r) :
    ∃ (v : V) (cs : List V) (h' : H), hfill st.h d cs = some h' ∧ fin E o st K (.v v) st.l h' = some r ∧
      ∀ (st2 : St) (h2 : H), (∀ x ∈ o.op.operands, S.le (st.opnd x) (st2.opnd x)) → st2.h.length = st.h.length → hfill st2.h d cs = some h2 →
        ∀ (R2 : Type) (K2 : St → Option R2), evOp E o st2 K2 = fin E o st2 K2 (.v v) st2.l h2 := by
  unfold fillOf at hd
  split at hd
  case h_2 => cases hd
  rename_i t x y ho
  split at hd
  case h_2 => cases hd
  rename_i hfz hg
  have hx0 : x ∈ o.op.operands := by simp [ho, Op.operands]
  have hy0 : y ∈ o.op.operands := by simp [ho, Op.operands]
  unfold evOp at he
  simp only [ho] at he
  split at he
  case h_2 => cases he
  rename_i l c e hx hy hel
  obtain ⟨z, hz, he⟩ := Option.bind_eq_some_iff.1 he
  split at he
  case isTrue => cases he
  rename_i h1
  split at he
  case isFalse => cases he
  rename_i h2
  split at he
  case isFalse => cases he
  rename_i h3
  split at he
  case isFalse => cases he
  rename_i h4
  split at he
  case isFalse => cases he
  rename_i h5
  split at he
  case isFalse => cases he
  rename_i h6
  simp only [hfz, hd] at he
  obtain ⟨h', hfl, he⟩ := Option.bind_eq_some_iff.1 he
  refine ⟨_, _, h', hfl, he, fun st2 hh hs hlen hf2 R2 K2 => ?_⟩
  unfold evOp
  simp only [ho, S.le_v (hs x hx0) hx, S.le_v (hs y hy0) hy, hel, hz, Option.bind_some, if_neg h1, if_pos h2, if_pos h3, if_pos h4, if_pos h5, if_pos h6, hfz, hd, hf2, hlen]

theorem fill_guard {o : Oper} {d : Nat} (hd : fillOf E o = some d) : o.guard = none := by
  unfold fillOf at hd
  split at hd
  · split at hd
    · assumption
    · cases hd
  · cases hd

theorem opnds_le {o : Oper} {st st2 : St} (h : ∀ t ∈ o.looksAt ops, S.le (lk st.s t) (lk st2.s t)) : ∀ x ∈ o.op.operands, S.le (st.opnd x) (st2.opnd x) := by
  intro x hx
  cases x with
  | tmp t => exact h t (List.mem_append_left _ (List.mem_filterMap.2 ⟨.tmp t, by simpa using hx, rfl⟩))
  | const v => exact .inr rfl
  | global g => exact .inr rfl
  | func f => exact .inr rfl

theorem lk_out {o : Oper} {st : St} {x : S} {l : List (Nat × List V)} {h : H} (i : Nat) (hi : o.dst ≠ some i) : lk (outS E o st x l h).s i = lk st.s i := by
  unfold outS
  cases hd : o.dst with
  | none => rfl
  | some d =>
    show lk ((d, fixS E d x) :: st.s) i = _
    rw [lk_cons, if_neg (fun e => hi (by rw [hd, e]))]

theorem out_l {o : Oper} {st : St} {x : S} {l : List (Nat × List V)} {h : H} : (outS E o st x l h).l = l := by unfold outS; cases o.dst <;> rfl
theorem out_h {o : Oper} {st : St} {x : S} {l : List (Nat × List V)} {h : H} : (outS E o st x l h).h = h := by unfold outS; cases o.dst <;> rfl

/-- Two places that are filled: in any order. -/
theorem swapFill {o p : Oper} {st st1 st2 : St} (h1 : stp E ops o st = some st1) (h2 : stp E ops p st1 = some st2) (hlp : LpOk E st) (ha : o.apart ops p = true) (hf : fills E o p = true) :
    ∃ sJ sF, stp E ops p st = some sJ ∧ stp E ops o sJ = some sF ∧ St.le st2 sF ∧ LpOk E sJ := by
  obtain ⟨a1, a2, a3⟩ := Oper.apart_spec ha
  unfold fills at hf
  split at hf
  case h_2 => cases hf
  rename_i d d' hd hd'
  have go := fill_guard hd
  have gp := fill_guard hd'
  have wo : ∀ s, wantS ops o s = some true := fun s => by simp [wantS, go]
  have wp : ∀ s, wantS ops p s = some true := fun s => by simp [wantS, gp]
  have so : ∀ s, stp E ops o s = evOp E o s some := fun s => by simp only [stp, wo s]
  have sp : ∀ s, stp E ops p s = evOp E p s some := fun s => by simp only [stp, wp s]
  rw [so] at h1
  rw [sp] at h2
  obtain ⟨v, cs, h', f1, e1, k1⟩ := fill_ev hd h1
  obtain ⟨i1, i2⟩ := fin_out e1
  cases i1
  obtain ⟨v2, cs2, g', f2, e2, k2⟩ := fill_ev hd' h2
  obtain ⟨j1, j2⟩ := fin_out e2
  cases j1
  rw [out_h] at f2
  obtain ⟨r1, rfl⟩ := hfill_inv f1
  obtain ⟨r2, rfl⟩ := hfill_inv f2
  have hl1 : (st.h.set (st.h.length - d) (.cells 1 cs)).length = st.h.length := by simp
  rw [hl1] at r2 f2
  have hlt : st.h.length - d < st.h.length := (List.getElem?_eq_some_iff.1 r1).1
  have hne : st.h.length - d ≠ st.h.length - d' := by
    intro e
    rw [← e, List.getElem?_set_self hlt] at r2
    cases r2
  rw [List.getElem?_set_ne hne] at r2
  have q1 : hfill st.h d' cs2 = some (st.h.set (st.h.length - d') (.cells 1 cs2)) := by unfold hfill; rw [r2]
  have t1 := k2 st _ (opnds_le (ops := ops) fun t ht => by rw [lk_out t fun e => a1 t e ht]; exact .inr rfl) (by rw [out_h, hl1]) q1 St some
  rw [j2 st St some (.v v2) st.l (st.h.set (st.h.length - d') (.cells 1 cs2))] at t1
  have q2 : hfill (outS E p st (.v v2) st.l (st.h.set (st.h.length - d') (.cells 1 cs2))).h d cs = some ((st.h.set (st.h.length - d') (.cells 1 cs2)).set (st.h.length - d) (.cells 1 cs)) := by
    rw [out_h]
    unfold hfill
    rw [List.length_set, List.getElem?_set_ne (Ne.symm hne), r1]
  have t2 := k1 _ _ (opnds_le (ops := ops) (st2 := outS E p st (.v v2) st.l (st.h.set (st.h.length - d') (.cells 1 cs2))) fun t ht => by rw [lk_out t fun e => a3 t e ht]; exact .inr rfl) (by rw [out_h, List.length_set]) q2 St some
  rw [i2 _ St some (.v v) _ _] at t2
  refine ⟨_, _, (sp st).trans t1, (so _).trans t2, ⟨fun i => ?_, fun t => ?_, ?_⟩, hlp.out _ _ _⟩
  · by_cases hp : p.dst = some i
    · have ho : o.dst ≠ some i := fun e => a2 i e hp
      rw [lk_out (o := o) i ho]
      unfold outS
      rw [hp]
      show S.le (lk ((i, fixS E i (.v v2)) :: _) i) (lk ((i, fixS E i (.v v2)) :: _) i)
      rw [lk_cons, lk_cons, if_pos rfl, if_pos rfl]
      exact .inr rfl
    · rw [lk_out (o := p) i hp]
      by_cases ho : o.dst = some i
      · unfold outS
        rw [ho]
        show S.le (lk ((i, fixS E i (.v v)) :: _) i) (lk ((i, fixS E i (.v v)) :: _) i)
        rw [lk_cons, lk_cons, if_pos rfl, if_pos rfl]
        exact .inr rfl
      · rw [lk_out i ho, lk_out i ho, lk_out i hp]
        exact .inr rfl
  · rw [out_l, out_l, out_l, out_l]
  · rw [out_h, out_h, hl1, List.set_comm _ _ hne]

/-- A load, and a call that leaves all that was there: in any order. -/
theorem swapGrow (hE : Good E) {o p : Oper} {st st1 st2 : St} (h1 : stp E ops o st = some st1) (h2 : stp E ops p st1 = some st2) (hlp : LpOk E st) (ha : o.apart ops p = true) (hl : loadOf E o = true) (hg : groOf E p = true) :
    ∃ sJ sF, stp E ops p st = some sJ ∧ stp E ops o sJ = some sF ∧ St.le st2 sF ∧ LpOk E sJ := by
  obtain ⟨a1, a2, a3⟩ := Oper.apart_spec ha
  have go : o.guard = none := by
    unfold loadOf at hl
    split at hl
    · assumption
    · cases hl
  have gp : p.guard = none := by
    unfold groOf at hg
    split at hg
    · assumption
    · cases hg
  have so : ∀ s, stp E ops o s = evOp E o s some := fun s => by simp only [stp, wantS, go]
  have sp : ∀ s, stp E ops p s = evOp E p s some := fun s => by simp only [stp, wantS, gp]
  rw [so] at h1
  rw [sp] at h2
  obtain ⟨x, e1, k1⟩ := load_ext hl h1
  obtain ⟨i1, i2⟩ := fin_out e1
  cases i1
  obtain ⟨v, h', hgr, e2, k2⟩ := gro_ev hE hg h2
  obtain ⟨j1, j2⟩ := fin_out e2
  cases j1
  rw [out_h] at hgr
  have t1 := k2 st (opnds_le (ops := ops) fun t ht => by rw [lk_out t fun e => a1 t e ht]; exact .inr rfl) (by rw [out_h]) St some
  rw [j2 st St some (.v v) st.l h'] at t1
  have t2 := k1 (outS E p st (.v v) st.l h') (opnds_le (ops := ops) fun t ht => by rw [lk_out t fun e => a3 t e ht]; exact .inr rfl) (fun t => by rw [out_l]) (by rw [out_h]; exact hgr) St some
  rw [i2 _ St some x _ _] at t2
  refine ⟨_, _, (sp st).trans t1, (so _).trans t2, ⟨fun i => ?_, fun t => ?_, ?_⟩, hlp.out _ _ _⟩
  · by_cases hp : p.dst = some i
    · have ho : o.dst ≠ some i := fun e => a2 i e hp
      rw [lk_out (o := o) i ho]
      unfold outS
      rw [hp]
      show S.le (lk ((i, fixS E i (.v v)) :: _) i) (lk ((i, fixS E i (.v v)) :: _) i)
      rw [lk_cons, lk_cons, if_pos rfl, if_pos rfl]
      exact .inr rfl
    · rw [lk_out (o := p) i hp]
      by_cases ho : o.dst = some i
      · unfold outS
        rw [ho]
        show S.le (lk ((i, fixS E i x) :: _) i) (lk ((i, fixS E i x) :: _) i)
        rw [lk_cons, lk_cons, if_pos rfl, if_pos rfl]
        exact .inr rfl
      · rw [lk_out i ho, lk_out i ho, lk_out i hp]
        exact .inr rfl
  · rw [out_l, out_l, out_l, out_l]
  · rw [out_h, out_h, out_h]

/-- Where a store that is always wanted goes. -/
def stAddr (o : Oper) : Option Nat :=
  match o.op, o.guard with
  | .store _ (.tmp a) _, none => some a
  | _, _ => none

/-- The object that a slot's pointer names. -/
def ptrOf (x : S) : Option Nat :=
  match x with
  | .p (.ptr id _ _) | .v (.ptr id _ _) => some id
  | _ => none

/-- Are they two objects? -/
def sepS (x y : S) : Option Unit :=
  match ptrOf x, ptrOf y with
  | some i, some j => match Nat.beq i j with
    | true => none
    | false => some ()
  | _, _ => none

theorem sepS_spec {x y : S} (h : sepS x y = some ()) : ∃ i j, ptrOf x = some i ∧ ptrOf y = some j ∧ i ≠ j := by
  unfold sepS at h
  split at h
  · rename_i i j hi hj
    split at h
    · cases h
    · rename_i hb
      exact ⟨i, j, hi, hj, fun e => by subst e; rw [Nat.beq_refl] at hb; cases hb⟩
  · cases h

theorem sepS_le {x y x' y' : S} (h : sepS x y = some ()) (hx : S.le x x') (hy : S.le y y') : sepS x' y' = some () := by
  obtain ⟨i, j, hi, hj, _⟩ := sepS_spec h
  have ex : x = x' := by
    rcases hx with e | e
    · rw [e] at hi; cases hi
    · exact e
  have ey : y = y' := by
    rcases hy with e | e
    · rw [e] at hj; cases hj
    · exact e
  rw [← ex, ← ey]; exact h

theorem ptrOf_inv {x : S} {i : Nat} (h : ptrOf x = some i) : ∃ v off, x = .p (.ptr i v off) ∨ x = .v (.ptr i v off) := by
  unfold ptrOf at h
  split at h
  · cases h; exact ⟨_, _, .inl rfl⟩
  · cases h; exact ⟨_, _, .inr rfl⟩
  · cases h

theorem wr_swap {h h1 h2 : H} {i v off j v' off' : Nat} {xs ys : List V} (hij : i ≠ j) (e1 : wr h (.ptr i v off) xs = some h1) (e2 : wr h1 (.ptr j v' off') ys = some h2) :
    ∃ h1', wr h (.ptr j v' off') ys = some h1' ∧ wr h1' (.ptr i v off) xs = some h2 := by
  have inv : ∀ {h h1 : H} {i v off : Nat} {xs : List V}, wr h (.ptr i v off) xs = some h1 → ∃ cs, h[i]? = some (.cells v cs) ∧ off + xs.length ≤ cs.length ∧ h1 = h.set i (.cells v (splice cs off xs)) := by
    intro h h1 i v off xs e
    simp only [wr] at e
    split at e
    · rename_i v0 cs ho
      split at e
      · rename_i hv
        subst hv
        split at e
        · rename_i hl
          cases e; exact ⟨cs, ho, hl, rfl⟩
        · cases e
      · cases e
    · cases e
  obtain ⟨cs, o1, l1, rfl⟩ := inv e1
  obtain ⟨ds, o2, l2, rfl⟩ := inv e2
  rw [List.getElem?_set_ne hij] at o2
  have wo : ∀ {h : H} {id v off : Nat} {cs xs : List V}, h[id]? = some (.cells v cs) → off + xs.length ≤ cs.length → wr h (.ptr id v off) xs = some (h.set id (.cells v (splice cs off xs))) := fun ho hl => by simp [wr, ho, hl]
  refine ⟨_, wo o2 l2, ?_⟩
  rw [wo (cs := cs) (by rw [List.getElem?_set_ne (Ne.symm hij)]; exact o1) l1, List.set_comm _ _ (Ne.symm hij)]

theorem store_ev {R : Type} {o : Oper} {st : St} {K : St → Option R} {r : R} {a : Nat} {p : V} (ha : stAddr o = some a) (hp : lk st.s a = .p p ∨ lk st.s a = .v p) (he : evOp E o st K = some r) :
    ∃ (xs : List V) (h' : H), wr st.h p xs = some h' ∧ fin E o st K .bad st.l h' = some r ∧
      ∀ (st2 : St) (h2 : H), (∀ x ∈ o.op.operands, S.le (st.opnd x) (st2.opnd x)) → wr st2.h p xs = some h2 → ∀ (R2 : Type) (K2 : St → Option R2), evOp E o st2 K2 = fin E o st2 K2 .bad st2.l h2 := by
  unfold stAddr at ha
  split at ha
  case h_2 => cases ha
  rename_i t a' x ho hg
  cases ha
  have hx0 : x ∈ o.op.operands := by simp [ho, Op.operands]
  have ha0 : Operand.tmp a ∈ o.op.operands := by simp [ho, Op.operands]
  have hnb : lk st.s a ≠ .bad := by rcases hp with h | h <;> rw [h] <;> simp
  unfold evOp at he
  simp only [ho] at he
  split at he
  case h_2 => cases he
  rename_i xv hx
  obtain ⟨xs, he, hc⟩ := cellsAs_thru _ _ _ _ _ he
  have put : ∀ (st2 : St), lk st2.s a = lk st.s a → ∀ (R2 : Type) (K2 : List (Nat × List V) → H → Option R2), st2.put (st2.opnd (.tmp a)) xs K2 = (wr st2.h p xs).bind fun h => K2 st2.l h := by
    intro st2 e R2 K2
    show St.put st2 (lk st2.s a) xs K2 = _
    rw [e]
    rcases hp with h | h <;> rw [h] <;> rfl
  rw [put st rfl] at he
  obtain ⟨h', hw, he⟩ := Option.bind_eq_some_iff.1 he
  refine ⟨xs, h', hw, he, fun st2 h2 hs hw2 R2 K2 => ?_⟩
  have e2 : lk st2.s a = lk st.s a := by
    rcases hs _ ha0 with h | h
    · exact absurd h hnb
    · exact h.symm
  unfold evOp
  simp only [ho, S.le_v (hs x hx0) hx]
  refine (hc R2 _).trans ?_
  rw [put st2 e2, hw2, Option.bind_some]

/-- Two stores into two objects: in any order. -/
theorem swapStore {o p : Oper} {st st1 st2 : St} (h1 : stp E ops o st = some st1) (h2 : stp E ops p st1 = some st2) (hlp : LpOk E st) (ha : o.apart ops p = true) {a b : Nat} (hoa : stAddr o = some a) (hpb : stAddr p = some b) (hsep : sepS (lk st.s a) (lk st.s b) = some ()) :
    ∃ sJ sF, stp E ops p st = some sJ ∧ stp E ops o sJ = some sF ∧ St.le st2 sF ∧ LpOk E sJ := by
  obtain ⟨a1, a2, a3⟩ := Oper.apart_spec ha
  obtain ⟨i, j, hi, hj, hij⟩ := sepS_spec hsep
  obtain ⟨v, off, hpa⟩ := ptrOf_inv hi
  obtain ⟨v', off', hpb'⟩ := ptrOf_inv hj
  have gd : ∀ {o : Oper} {a : Nat}, stAddr o = some a → o.guard = none ∧ a ∈ o.looksAt ops := by
    intro o a h
    unfold stAddr at h
    split at h
    · rename_i t a' x ho hg
      cases h
      exact ⟨hg, List.mem_append_left _ (List.mem_filterMap.2 ⟨.tmp a, by simp [ho, Op.operands], rfl⟩)⟩
    · cases h
  obtain ⟨go, ao⟩ := gd hoa
  obtain ⟨gp, bp⟩ := gd hpb
  have so : ∀ s, stp E ops o s = evOp E o s some := fun s => by simp only [stp, wantS, go]
  have sp : ∀ s, stp E ops p s = evOp E p s some := fun s => by simp only [stp, wantS, gp]
  rw [so] at h1
  rw [sp] at h2
  obtain ⟨xs, h', w1, e1, k1⟩ := store_ev hoa hpa h1
  obtain ⟨i1, i2⟩ := fin_out e1
  cases i1
  have hpb1 : lk (outS E o st .bad st.l h').s b = lk st.s b := lk_out b fun e => a1 b e bp
  obtain ⟨ys, g', w2, e2, k2⟩ := store_ev hpb (by rw [hpb1]; exact hpb') h2
  obtain ⟨j1, j2⟩ := fin_out e2
  cases j1
  rw [out_h] at w2
  obtain ⟨h1', q1, q2⟩ := wr_swap hij w1 w2
  have t1 := k2 st _ (opnds_le (ops := ops) fun t ht => by rw [lk_out t fun e => a1 t e ht]; exact .inr rfl) q1 St some
  rw [j2 st St some .bad st.l h1'] at t1
  have t2 := k1 (outS E p st .bad st.l h1') _ (opnds_le (ops := ops) fun t ht => by rw [lk_out t fun e => a3 t e ht]; exact .inr rfl) (by rw [out_h]; exact q2) St some
  rw [i2 _ St some .bad _ _] at t2
  refine ⟨_, _, (sp st).trans t1, (so _).trans t2, ⟨fun i => ?_, fun t => ?_, ?_⟩, hlp.out _ _ _⟩
  · by_cases hp : p.dst = some i
    · have ho : o.dst ≠ some i := fun e => a2 i e hp
      rw [lk_out (o := o) i ho]
      unfold outS
      rw [hp]
      show S.le (lk ((i, fixS E i .bad) :: _) i) (lk ((i, fixS E i .bad) :: _) i)
      rw [lk_cons, lk_cons, if_pos rfl, if_pos rfl]
      exact .inr rfl
    · rw [lk_out (o := p) i hp]
      by_cases ho : o.dst = some i
      · unfold outS
        rw [ho]
        show S.le (lk ((i, fixS E i .bad) :: _) i) (lk ((i, fixS E i .bad) :: _) i)
        rw [lk_cons, lk_cons, if_pos rfl, if_pos rfl]
        exact .inr rfl
      · rw [lk_out i ho, lk_out i ho, lk_out i hp]
        exact .inr rfl
  · rw [out_l, out_l, out_l, out_l]
  · rw [out_h, out_h]

/-- Two operations that have nothing to do with each other may come the other way round. -/
theorem swap (hE : Good E) {o p : Oper} {st st1 st2 : St} (h1 : stp E ops o st = some st1) (h2 : stp E ops p st1 = some st2) (hlp : LpOk E st) (hi : indep E ops o p = true) :
    ∃ sJ sF, stp E ops p st = some sJ ∧ stp E ops o sJ = some sF ∧ St.le st2 sF ∧ LpOk E sJ := by
  unfold indep at hi
  simp only [Bool.and_eq_true, Bool.or_eq_true] at hi
  rcases hi.2 with (hi2 | hfl) | hlg
  case inl.inr => exact swapFill h1 h2 hlp hi.1 hfl
  case inr => exact swapGrow hE h1 h2 hlp hi.1 hlg.1 hlg.2
  obtain ⟨a1, a2, a3⟩ := Oper.apart_spec hi.1
  obtain ⟨b1, b2⟩ := keysApart_spec hi2
  obtain ⟨x, l, h, rfl, hs⟩ := stp_shape hlp h1
  obtain ⟨y, m, g, rfl, hs'⟩ := stp_shape (hlp.out _ _ _) h2
  obtain ⟨_, _, _, _, hm0, _⟩ := hs st ((St.le_refl st).alikeG o)
  obtain ⟨y2, m2, g2, c1, c2, c3⟩ := hs' st ⟨fun t ht => by rw [lk_out t fun e => a1 t e ht]; exact .inr rfl, fun b hb => by
    rw [out_h]
    rcases hm0.h1 with e | ⟨e, _⟩
    · exact absurd hb (b1 none b e)
    · exact e.symm, fun t b hb => by
    rw [out_l]
    rcases hm0.l1 t with e | ⟨e, _⟩
    · exact absurd hb (b1 (some t) b e)
    · exact e.symm⟩
  obtain ⟨x2, l2, h2', d1, d2, d3⟩ := hs (outS E p st y2 m2 g2) ⟨fun t ht => by rw [lk_out t fun e => a3 t e ht]; exact .inr rfl, fun b hb => by
    rw [out_h]
    rcases c2.h1 with e | ⟨_, e⟩
    · exact absurd hb (b2 none b e)
    · exact e, fun t b hb => by
    rw [out_l]
    rcases c2.l1 t with e | ⟨_, e⟩
    · exact absurd hb (b2 (some t) b e)
    · exact e⟩
  refine ⟨_, _, c3, d3, ⟨fun i => ?_, fun t => ?_, ?_⟩, hlp.out _ _ _⟩
  · by_cases hp : p.dst = some i
    · have ho : o.dst ≠ some i := fun e => a2 i e hp
      rw [lk_out (o := o) i ho]
      unfold outS
      rw [hp]
      show S.le (lk ((i, fixS E i y) :: _) i) (lk ((i, fixS E i y2) :: _) i)
      rw [lk_cons, lk_cons, if_pos rfl, if_pos rfl]
      exact fixS_le c1
    · rw [lk_out (o := p) i hp]
      by_cases ho : o.dst = some i
      · unfold outS
        rw [ho]
        show S.le (lk ((i, fixS E i x) :: _) i) (lk ((i, fixS E i x2) :: _) i)
        rw [lk_cons, lk_cons, if_pos rfl, if_pos rfl]
        exact fixS_le d1
      · rw [lk_out i ho, lk_out i ho, lk_out i hp]
        exact .inr rfl
  · rw [out_l, out_l]
    rcases c2.l1 t with e | ⟨e, e'⟩
    · rcases d2.l1 t with f | ⟨f, f'⟩
      · exact absurd f (b2 (some t) true e)
      · rw [f', out_l]; exact c2.le t e
    · rw [out_l] at e
      rcases d2.l1 t with f | ⟨f, f'⟩
      · rw [d2.le t f, e]
      · rw [f', out_l, e', e, f]
  · rw [out_h, out_h]
    rcases c2.h1 with e | ⟨e, e'⟩
    · rcases d2.h1 with f | ⟨f, f'⟩
      · exact absurd f (b2 none true e)
      · rw [f', out_h]; exact c2.he e
    · rw [out_h] at e
      rcases d2.h1 with f | ⟨f, f'⟩
      · rw [d2.he f, e]
      · rw [f', out_h, e', e, f]

/-- Where a load that is always wanted reads. -/
def ldAddr (E : Env) (o : Oper) : Option Nat :=
  match o.op, o.guard with
  | .load _ (.tmp a), none => match rlOf E o with
    | false => some a
    | true => none
  | _, _ => none

/-- The first argument of a call, always wanted, that writes into that one's object only. -/
def ownArg (E : Env) (o : Oper) : Option Nat :=
  match o.op, o.guard with
  | .call c, none => match c.callee with
    | .value (.func f) => match E.cal f with
      | some (.own _) => match fzOf E o, c.args.toList with
        | false, .tmp b :: _ => some b
        | _, _ => none
      | _ => none
    | _ => none
  | _, _ => none

theorem load_same {R : Type} {o : Oper} {st : St} {K : St → Option R} {r : R} {a i v off : Nat} (hd : ldAddr E o = some a) (hp : lk st.s a = .p (.ptr i v off) ∨ lk st.s a = .v (.ptr i v off)) (he : evOp E o st K = some r) :
    i < st.h.length ∧ ∃ x, fin E o st K x st.l st.h = some r ∧ ∀ st2 : St, lk st2.s a = lk st.s a → st2.h[i]? = st.h[i]? →
      ∀ (R2 : Type) (K2 : St → Option R2), evOp E o st2 K2 = fin E o st2 K2 x st2.l st2.h := by
  unfold ldAddr at hd
  split at hd
  case h_2 => cases hd
  rename_i t a' ho hg
  split at hd
  case h_2 => cases hd
  rename_i hrl
  cases hd
  have hget : ∀ st2 : St, st2.h[i]? = st.h[i]? → st2.get (lk st.s a) = st.get (lk st.s a) := fun st2 hh => by
    funext j
    rcases hp with h | h <;> rw [h] <;> simp only [St.get, rd, hh]
  have hgetN : ∀ st2 : St, st2.h[i]? = st.h[i]? → ∀ n, st2.getN (lk st.s a) n = st.getN (lk st.s a) n := fun st2 hh n => by
    rcases hp with h | h <;> rw [h] <;> simp only [St.getN, rdN, hh]
  have hlt : ∀ {j : Nat} {u : V}, st.get (lk st.s a) j = some u → i < st.h.length := fun {j u} hu => by
    rcases Nat.lt_or_ge i st.h.length with h | h
    · exact h
    · have e0 : st.h[i]? = none := List.getElem?_eq_none h
      rcases hp with h | h <;> rw [h] at hu <;> simp only [St.get, rd, e0] at hu <;> cases hu
  have hltN : ∀ {n : Nat} {u : List V}, st.getN (lk st.s a) n = some u → i < st.h.length := fun {n u} hu => by
    rcases Nat.lt_or_ge i st.h.length with h | h
    · exact h
    · have e0 : st.h[i]? = none := List.getElem?_eq_none h
      rcases hp with h | h <;> rw [h] at hu <;> simp only [St.getN, rdN, e0] at hu <;> cases hu
  unfold evOp at he
  simp only [ho, hrl] at he
  split at he
  · rename_i l hl
    obtain ⟨v0, h0, _⟩ := dest_inv he
    obtain ⟨v, he, hv⟩ := dest_thru _ _ _ _ _ he
    refine ⟨hlt h0, _, he, fun st2 e hh R2 K2 => ?_⟩
    unfold evOp
    simp only [ho, hrl, hl]
    rw [show st2.opnd (.tmp a) = lk st.s a from e, hget st2 hh]
    exact hv R2 _
  · rename_i ls hl
    have hi0 : i < st.h.length := by
      obtain ⟨vs, h1, h2, _⟩ := rdLs_inv he
      obtain ⟨_, _, c2⟩ := (tyOf_cases E.P 2 t).2.1 ls hl
      cases vs with
      | nil => simp at h1; omega
      | cons v vs => exact hlt (h2 0 v rfl)
    obtain ⟨v, he, hv⟩ := rdLs_thru _ _ _ _ _ _ he
    refine ⟨hi0, _, he, fun st2 e hh R2 K2 => ?_⟩
    unfold evOp
    simp only [ho, hrl, hl]
    rw [show st2.opnd (.tmp a) = lk st.s a from e, hget st2 hh]
    exact hv R2 _
  · rename_i n hl
    obtain ⟨cs, hc, he⟩ := Option.bind_eq_some_iff.1 he
    refine ⟨hltN hc, _, he, fun st2 e hh R2 K2 => ?_⟩
    unfold evOp
    simp only [ho, hrl, hl]
    rw [show st2.opnd (.tmp a) = lk st.s a from e, hgetN st2 hh]
    rw [show st.getN (lk st.s a) n = some cs from hc, Option.bind_some]
    rfl
  · cases he

theorem own_ev (hE : Good E) {R : Type} {o : Oper} {st : St} {K : St → Option R} {r : R} {b j : Nat} (hd : ownArg E o = some b) (hp : ptrOf (lk st.s b) = some j) (he : evOp E o st K = some r) :
    ∃ (v : V) (h' : H), (∀ i, i < st.h.length → i ≠ j → h'[i]? = st.h[i]?) ∧ fin E o st K (.v v) st.l h' = some r ∧
      ∀ st2 : St, (∀ x ∈ o.op.operands, S.le (st.opnd x) (st2.opnd x)) → st2.h = st.h → ∀ (R2 : Type) (K2 : St → Option R2), evOp E o st2 K2 = fin E o st2 K2 (.v v) st2.l h' := by
  unfold ownArg at hd
  split at hd
  case h_2 => cases hd
  rename_i c ho hg
  split at hd
  case h_2 => cases hd
  rename_i f hc
  split at hd
  case h_2 => cases hd
  rename_i F hF
  split at hd
  case h_2 => cases hd
  rename_i b' rest hfz hal
  cases hd
  have hargs : ∀ x ∈ c.args.toList, x ∈ o.op.operands := fun x hx => by
    simp only [ho, Op.operands, Call.operands, Array.mem_append]; exact .inr (by simpa using hx)
  unfold evOp at he
  simp only [ho, hc] at he
  obtain ⟨vs, he, hvs, hv⟩ := argsK_thru _ _ _ _ _ he
  unfold callK at he
  simp only [hF, hfz] at he
  obtain ⟨q, h1, he⟩ := Option.bind_eq_some_iff.1 he
  obtain ⟨u, he, hu⟩ := tyDest_thru _ _ _ _ _ he
  obtain ⟨_, hgr⟩ := hE.cal f _ hF vs st.h q h1
  refine ⟨u, (F.out q).2, fun i hi hij => hgr i hi fun e => hij ?_, he, fun st2 hs hh R2 K2 => ?_⟩
  · cases vs with
    | nil => cases e
    | cons v0 vs =>
      have h0 := hvs 0 (.tmp b) v0 (by rw [hal]; rfl) rfl
      have h0' : lk st.s b = .v v0 := h0
      rw [h0'] at hp
      simp only [List.head?_cons, Option.bind_some] at e
      cases v0 <;> simp only [ptrId] at e <;> cases e
      simp only [ptrOf, Option.some.injEq] at hp
      exact hp
  · unfold evOp
    simp only [ho, hc]
    rw [hv st2 (fun x hx => hs x (hargs x hx)) R2 _]
    unfold callK
    simp only [hF, hfz, hh, h1, Option.bind_some]
    exact hu R2 _

/-- A load, and a call that writes into another object only: in any order. -/
theorem swapOwn (hE : Good E) {o p : Oper} {st st1 st2 : St} (h1 : stp E ops o st = some st1) (h2 : stp E ops p st1 = some st2) (hlp : LpOk E st) (ha : o.apart ops p = true) {a b : Nat} (hl : ldAddr E o = some a) (hg : ownArg E p = some b) (hsep : sepS (lk st.s a) (lk st.s b) = some ()) :
    ∃ sJ sF, stp E ops p st = some sJ ∧ stp E ops o sJ = some sF ∧ St.le st2 sF ∧ LpOk E sJ := by
  obtain ⟨a1, a2, a3⟩ := Oper.apart_spec ha
  obtain ⟨i, j, hi, hj, hij⟩ := sepS_spec hsep
  obtain ⟨v, off, hpa⟩ := ptrOf_inv hi
  have go : o.guard = none ∧ a ∈ o.looksAt ops := by
    unfold ldAddr at hl
    split at hl
    · rename_i t a' ho hg'
      split at hl
      · cases hl
        exact ⟨hg', List.mem_append_left _ (List.mem_filterMap.2 ⟨.tmp a, by simp [ho, Op.operands], rfl⟩)⟩
      · cases hl
    · cases hl
  have gp : p.guard = none ∧ b ∈ p.looksAt ops := by
    unfold ownArg at hg
    split at hg
    case h_2 => cases hg
    rename_i c ho hgd
    split at hg
    case h_2 => cases hg
    rename_i f hc
    split at hg
    case h_2 => cases hg
    split at hg
    case h_2 => cases hg
    rename_i b' rest hfz hal
    cases hg
    refine ⟨hgd, List.mem_append_left _ (List.mem_filterMap.2 ⟨.tmp b, ?_, rfl⟩)⟩
    have : Operand.tmp b ∈ c.args.toList := by rw [hal]; exact List.mem_cons_self ..
    simp only [ho, Op.operands, Call.operands]
    simp only [Array.toList_append, List.mem_append]
    exact .inr this
  have so : ∀ s, stp E ops o s = evOp E o s some := fun s => by simp only [stp, wantS, go.1]
  have sp : ∀ s, stp E ops p s = evOp E p s some := fun s => by simp only [stp, wantS, gp.1]
  rw [so] at h1
  rw [sp] at h2
  obtain ⟨hil, x, e1, k1⟩ := load_same hl hpa h1
  obtain ⟨i1, i2⟩ := fin_out e1
  cases i1
  have hjb : ptrOf (lk (outS E o st x st.l st.h).s b) = some j := by rw [lk_out b fun e => a1 b e gp.2]; exact hj
  obtain ⟨u, h', hgr, e2, k2⟩ := own_ev hE hg hjb h2
  obtain ⟨j1, j2⟩ := fin_out e2
  cases j1
  rw [out_h] at hgr
  have hi' : h'[i]? = st.h[i]? := hgr i hil hij
  have t1 := k2 st (opnds_le (ops := ops) fun t ht => by rw [lk_out t fun e => a1 t e ht]; exact .inr rfl) (by rw [out_h]) St some
  rw [j2 st St some (.v u) st.l h'] at t1
  have t2 := k1 (outS E p st (.v u) st.l h') (by rw [lk_out a fun e => a3 a e go.2]) (by rw [out_h]; exact hi') St some
  rw [i2 _ St some x _ _] at t2
  refine ⟨_, _, (sp st).trans t1, (so _).trans t2, ⟨fun i => ?_, fun t => ?_, ?_⟩, hlp.out _ _ _⟩
  · by_cases hp : p.dst = some i
    · have ho : o.dst ≠ some i := fun e => a2 i e hp
      rw [lk_out (o := o) i ho]
      unfold outS
      rw [hp]
      show S.le (lk ((i, fixS E i (.v u)) :: _) i) (lk ((i, fixS E i (.v u)) :: _) i)
      rw [lk_cons, lk_cons, if_pos rfl, if_pos rfl]
      exact .inr rfl
    · rw [lk_out (o := p) i hp]
      by_cases ho : o.dst = some i
      · unfold outS
        rw [ho]
        show S.le (lk ((i, fixS E i x) :: _) i) (lk ((i, fixS E i x) :: _) i)
        rw [lk_cons, lk_cons, if_pos rfl, if_pos rfl]
        exact .inr rfl
      · rw [lk_out i ho, lk_out i ho, lk_out i hp]
        exact .inr rfl
  · rw [out_l, out_l, out_l, out_l]
  · rw [out_h, out_h, out_h]

/-- Two stores whose places are known and are two objects' in the end. -/
def DynAt (E : Env) (ops : Array Oper) (p o : Oper) (l : List Oper) (sf : St) : Prop :=
  p.apart ops o = true ∧ ∃ a b, (stAddr p = some a ∧ stAddr o = some b ∨ ldAddr E p = some a ∧ ownArg E o = some b) ∧ (∀ q ∈ l, q.dst ≠ some a ∧ q.dst ≠ some b) ∧ sepS (lk sf.s a) (lk sf.s b) = some ()

theorem moveFront (hE : Good E) {o : Oper} {l2 : List Oper} : ∀ (l1 : List Oper) {st st' : St}, flat E ops (l1 ++ o :: l2) st = some st' → LpOk E st → (∀ x p y, l1 = x ++ p :: y → indep E ops p o = true ∨ DynAt E ops p o (p :: (y ++ o :: l2)) st') →
    ∃ sJ sF, stp E ops o st = some sJ ∧ flat E ops (l1 ++ l2) sJ = some sF ∧ St.le st' sF ∧ LpOk E sJ
  | [], st, st', h, hlp, _ => by
    simp only [List.nil_append, flat] at h
    obtain ⟨st1, h1, h2⟩ := Option.bind_eq_some_iff.1 h
    obtain ⟨x, l, hh, rfl, _⟩ := stp_shape hlp h1
    exact ⟨_, st', h1, h2, St.le_refl _, hlp.out _ _ _⟩
  | p :: l1, st, st', h, hlp, hi => by
    have hall := h
    simp only [List.cons_append, flat] at h
    obtain ⟨st1, h1, h2⟩ := Option.bind_eq_some_iff.1 h
    have hlp1 : LpOk E st1 := by
      obtain ⟨x, l, hh, rfl, _⟩ := stp_shape hlp h1
      exact hlp.out _ _ _
    obtain ⟨sJ, sF, k1, k2, k3, k4⟩ := moveFront hE l1 h2 hlp1 fun x q y e => hi (p :: x) q y (by rw [e]; rfl)
    obtain ⟨sJ', s2, m1, m2, m3, m4⟩ : ∃ sJ' s2, stp E ops o st = some sJ' ∧ stp E ops p sJ' = some s2 ∧ St.le sJ s2 ∧ LpOk E sJ' := by
      rcases hi [] p l1 rfl with hp | ⟨hap, a, b, hab, hd, hs⟩
      · exact swap hE h1 k1 hlp hp
      · have hk := (flat_kept _ hall hlp).1
        rw [hk a fun q hq => (hd q hq).1, hk b fun q hq => (hd q hq).2] at hs
        rcases hab with ⟨ha, hb⟩ | ⟨ha, hb⟩
        · exact swapStore h1 k1 hlp hap ha hb hs
        · exact swapOwn hE h1 k1 hlp hap ha hb hs
    obtain ⟨sF', n1, n2⟩ := flat_mono (l1 ++ l2) k2 k4 m3
    exact ⟨sJ', sF', m1, by simp only [List.cons_append, flat, m2, Option.bind_some, n1], St.le_trans k3 n2, m4⟩

end
end
end Go.L
