/- What an operation looks at, and what it leaves. -/
import Derived.Test.YtkhnngghmlpbeaaGreatL24
namespace Go.L
noncomputable section

def lpOf (E : Env) (x : Operand) : Option Nat :=
  match x with
  | .tmp t => E.lpT t
  | _ => none

/-- Which memory an operation touches, and if it writes it. -/
def skey (E : Env) (o : Oper) : Option (Option Nat × Bool) :=
  match o.op with
  | .load _ a => match rlOf E o with
    | true => none
    | false => some (lpOf E a, false)
  | .store _ a _ => some (lpOf E a, true)
  | .alloc _ | .box _ _ => match ownOf E o with
    | true => some (o.dst, true)
    | false => some (none, true)
  | .buildSlice _ _ _ => match ownOf E o with
    | true => none
    | false => some (none, true)
  | .makeSlice _ _ _ => match fzOf E o with
    | true => none
    | false => some (none, true)
  | .makeMap _ _ | .mapUpdate _ _ _ _ => some (none, true)
  | .lookup _ _ _ _ => some (none, false)
  | .call c => match c.callee with
    | .value (.func f) => match E.cal f with
      | some (.pure _) | some (.ext _) => none
      | some (.ro _) => some (none, false)
      | _ => some (none, true)
    | .builtin .len => match (c.argTypes[0]?).bind E.P.underlying with
      | some (.map _ _) => some (none, false)
      | _ => none
    | .builtin .cap | .builtin .min | .builtin .max | .builtin .real | .builtin .imag | .builtin .complex => none
    | _ => some (none, true)
  | _ => none

def LpOk (E : Env) (st : St) : Prop := ∀ i, lpOk E i (lk st.s i) = true

structure Alike (E : Env) (o : Oper) (st st2 : St) : Prop where
  ops : ∀ x ∈ o.op.operands, S.le (st.opnd x) (st2.opnd x)
  h : ∀ b, skey E o = some (none, b) → st2.h = st.h
  l : ∀ t b, skey E o = some (some t, b) → lkl st2.l t = lkl st.l t

structure MemOk (k : Option (Option Nat × Bool)) (st st2 : St) (l : List (Nat × List V)) (h : H) (l2 : List (Nat × List V)) (h2 : H) : Prop where
  h1 : k = some (none, true) ∨ (h = st.h ∧ h2 = st2.h)
  l1 : ∀ t, k = some (some t, true) ∨ (lkl l t = lkl st.l t ∧ lkl l2 t = lkl st2.l t)
  he : k = some (none, true) → h2 = h
  le : ∀ t, k = some (some t, true) → lkl l2 t = lkl l t

def Shape {R : Type} (E : Env) (o : Oper) (st : St) (K : St → Option R) (r : R) : Prop :=
  ∃ x l h, fin E o st K x l h = some r ∧ ∀ st2, Alike E o st st2 → ∃ x2 l2 h2, S.le x x2 ∧ MemOk (skey E o) st st2 l h l2 h2 ∧
    ∀ (R2 : Type) (K2 : St → Option R2), evOp E o st2 K2 = fin E o st2 K2 x2 l2 h2

section
variable {R : Type} {E : Env} {o : Oper} {st : St} {K : St → Option R} {r : R}

theorem MemOk.same {st st2 : St} {k : Option (Option Nat × Bool)} (h : ∀ b, k = some (none, b) → st2.h = st.h) (l : ∀ t b, k = some (some t, b) → lkl st2.l t = lkl st.l t) :
    MemOk k st st2 st.l st.h st2.l st2.h := ⟨.inr ⟨rfl, rfl⟩, fun _ => .inr ⟨rfl, rfl⟩, h true, fun t => l t true⟩

/-- A value comes of it, and memory stays. -/
theorem shape_v {x : S} (he : fin E o st K x st.l st.h = some r)
    (h : ∀ st2, Alike E o st st2 → ∃ x2, S.le x x2 ∧ ∀ (R2 : Type) (K2 : St → Option R2), evOp E o st2 K2 = fin E o st2 K2 x2 st2.l st2.h) : Shape E o st K r :=
  ⟨x, st.l, st.h, he, fun st2 hs => by
    obtain ⟨x2, h1, h2⟩ := h st2 hs
    exact ⟨x2, st2.l, st2.h, h1, .same hs.h hs.l, h2⟩⟩

/-- The heap is written. -/
theorem shape_h {x : S} {h : H} (hk : skey E o = some (none, true)) (he : fin E o st K x st.l h = some r)
    (hh : ∀ st2, Alike E o st st2 → st2.h = st.h → ∀ (R2 : Type) (K2 : St → Option R2), evOp E o st2 K2 = fin E o st2 K2 x st2.l h) : Shape E o st K r :=
  ⟨x, st.l, h, he, fun st2 hs => ⟨x, st2.l, h, .inr rfl, ⟨.inl hk, fun t => .inr ⟨rfl, rfl⟩, fun _ => rfl, fun t ht => by rw [hk] at ht; cases ht⟩, hh st2 hs (hs.h true hk)⟩⟩

theorem move_shape {x : Operand} (ho : o.op = .move x ∨ o.op = .assign x) (he : evOp E o st K = some r) : Shape E o st K r := by
  have e : ∀ (R2 : Type) (st2 : St) (K2 : St → Option R2), evOp E o st2 K2 = fin E o st2 K2 (st2.opnd x) st2.l st2.h := by
    intro R2 st2 K2
    unfold evOp
    rcases ho with ho | ho <;> simp only [ho]
  rw [e] at he
  refine shape_v he fun st2 hs => ⟨st2.opnd x, hs.ops x ?_, fun R2 K2 => e R2 st2 K2⟩
  rcases ho with ho | ho <;> simp [ho, Op.operands]

theorem pick_shape {c x y : Operand} (ho : o.op = .pick c x y) (he : evOp E o st K = some r) : Shape E o st K r := by
  have hc0 : c ∈ o.op.operands := by simp [ho, Op.operands]
  have hx0 : x ∈ o.op.operands := by simp [ho, Op.operands]
  have hy0 : y ∈ o.op.operands := by simp [ho, Op.operands]
  unfold evOp at he
  simp only [ho] at he
  split at he
  · rename_i t hc
    split at he
    · rename_i p q hp hq
      exact shape_v he fun st2 hs => ⟨_, .inr rfl, fun R2 K2 => by
        unfold evOp
        simp only [ho, S.le_v (hs.ops c hc0) hc, S.le_v (hs.ops x hx0) hp, S.le_v (hs.ops y hy0) hq]
        rfl⟩
    · rename_i hno
      refine shape_v he fun st2 hs => ?_
      have hc2 := S.le_v (hs.ops c hc0) hc
      by_cases hv : ∃ p q, st2.opnd x = .v (.bool p) ∧ st2.opnd y = .v (.bool q)
      · obtain ⟨p, q, hp, hq⟩ := hv
        refine ⟨.v (.bool (if t = true then p else q)), ?_, fun R2 K2 => by unfold evOp; simp only [ho, hc2, hp, hq]; rfl⟩
        cases t with
        | true => have := hs.ops x hx0; rw [hp] at this; simpa using this
        | false => have := hs.ops y hy0; rw [hq] at this; simpa using this
      · refine ⟨if t = true then st2.opnd x else st2.opnd y, ?_, fun R2 K2 => ?_⟩
        · cases t with
          | true => simpa using hs.ops x hx0
          | false => simpa using hs.ops y hy0
        · unfold evOp
          simp only [ho, hc2]
          split
          · rename_i p q hp hq
            exact absurd ⟨p, q, hp, hq⟩ hv
          · rfl
  · cases he

theorem newVar_shape {cs : List V} (hkey : skey E o = (match ownOf E o with | true => some (o.dst, true) | false => some (none, true)))
    (he : (match ownOf E o, o.dst with
      | true, some d => match lkl st.l d with
        | none => fin E o st K (.lp d 0) ((d, cs) :: st.l) st.h
        | some _ => none
      | _, _ => fin E o st K (.v (.ptr st.h.length 0 0)) st.l (st.h ++ [.cells 0 cs])) = some r)
    (hev : ∀ st2, Alike E o st st2 → ∀ (R2 : Type) (K2 : St → Option R2), evOp E o st2 K2 = (match ownOf E o, o.dst with
      | true, some d => match lkl st2.l d with
        | none => fin E o st2 K2 (.lp d 0) ((d, cs) :: st2.l) st2.h
        | some _ => none
      | _, _ => fin E o st2 K2 (.v (.ptr st2.h.length 0 0)) st2.l (st2.h ++ [.cells 0 cs]))) : Shape E o st K r := by
  cases hown : ownOf E o with
  | true =>
    obtain ⟨d, hd⟩ : ∃ d, o.dst = some d := by
      unfold ownOf at hown
      cases h : o.dst with
      | none => rw [h] at hown; cases hown
      | some d => exact ⟨d, rfl⟩
    rw [hown, hd] at hkey he hev
    simp only at hkey he hev
    split at he
    · rename_i hl
      refine ⟨_, _, _, he, fun st2 hs => ⟨.lp d 0, (d, cs) :: st2.l, st2.h, .inr rfl, ⟨.inr ⟨rfl, rfl⟩, fun t => ?_, fun h => (by rw [hkey] at h; cases h), fun t ht => ?_⟩, fun R2 K2 => ?_⟩⟩
      · by_cases h : d = t
        · subst h; exact .inl hkey
        · right
          rw [lkl_cons, lkl_cons, if_neg h, if_neg h]
          exact ⟨rfl, rfl⟩
      · rw [hkey] at ht; cases ht
        rw [lkl_cons, lkl_cons, if_pos rfl, if_pos rfl]
      · rw [hev st2 hs, hs.l d true hkey, hl]
    · cases he
  | false =>
    rw [hown] at hkey
    simp only [hown] at he hev
    exact shape_h hkey he fun st2 hs hh R2 K2 => by rw [hev st2 hs, hh]

theorem alloc_shape {t : TypeId} (ho : o.op = .alloc t) (he : evOp E o st K = some r) : Shape E o st K r := by
  unfold evOp at he
  simp only [ho] at he
  obtain ⟨cs, hz, he⟩ := Option.bind_eq_some_iff.1 he
  exact newVar_shape (by simp only [skey, ho]) he fun st2 hs R2 K2 => by
    unfold evOp
    simp only [ho, hz, Option.bind_some]
    rfl

theorem box_shape {t : TypeId} {x : Operand} (ho : o.op = .box t x) (he : evOp E o st K = some r) : Shape E o st K r := by
  unfold evOp at he
  simp only [ho] at he
  split at he
  · rename_i v hx
    obtain ⟨cs, he, hc⟩ := cellsAs_thru _ _ _ _ _ he
    exact newVar_shape (by simp only [skey, ho]) he fun st2 hs R2 K2 => by
      unfold evOp
      simp only [ho, S.le_v (hs.ops x (by simp [ho, Op.operands])) hx]
      exact hc R2 _
  · cases he

theorem build_shape {t : TypeId} {ps : Array (Nat × Operand)} (ho : o.op = .build t ps) (he : evOp E o st K = some r) : Shape E o st K r := by
  unfold evOp at he
  simp only [ho] at he
  split at he
  · rename_i hp
    obtain ⟨cs, hz, he⟩ := Option.bind_eq_some_iff.1 he
    have hmem : ∀ p ∈ ps.toList, p.2 ∈ o.op.operands := by
      intro p hp
      simp only [ho, Op.operands, List.mem_toArray, List.mem_map]
      exact ⟨p, hp, rfl⟩
    obtain ⟨v, he, hb⟩ := buildS_thru E (placeOf E.P t) st ps.toList cs _ _ _ he
    refine shape_v he fun st2 hs => ⟨_, .inr rfl, fun R2 K2 => ?_⟩
    unfold evOp
    simp only [ho, if_pos hp, hz, Option.bind_some]
    exact hb st2 (fun p hp => hs.ops _ (hmem p hp)) R2 _
  · cases he

theorem buildSlice_shape {t : TypeId} {len : Nat} {ps : Array (Nat × Operand)} (ho : o.op = .buildSlice t len ps) (he : evOp E o st K = some r) : Shape E o st K r := by
  unfold evOp at he
  simp only [ho] at he
  obtain ⟨e, h1, he⟩ := Option.bind_eq_some_iff.1 he
  obtain ⟨z, h2, he⟩ := Option.bind_eq_some_iff.1 he
  split at he
  case isFalse => cases he
  rename_i h3
  split at he
  case isTrue => cases he
  rename_i h4
  split at he
  case isFalse => cases he
  rename_i h5
  have hmem : ∀ p ∈ ps.toList, p.2 ∈ o.op.operands := by
    intro p hp
    simp only [ho, Op.operands, List.mem_toArray, List.mem_map]
    exact ⟨p, hp, rfl⟩
  obtain ⟨v, he, hb⟩ := buildS_thru E (fun i => some (i * E.P.cellsOf e, e)) st ps.toList _ _ _ _ he
  cases hown : ownOf E o with
  | true =>
    simp only [hown] at he
    refine shape_v he fun st2 hs => ⟨_, .inr rfl, fun R2 K2 => ?_⟩
    unfold evOp
    simp only [ho, if_pos h3, if_neg h4, if_pos h5, h1, h2, Option.bind_some, hown]
    exact hb st2 (fun p hp => hs.ops _ (hmem p hp)) R2 _
  | false =>
    simp only [hown] at he
    refine shape_h (by simp only [skey, ho, hown]) he fun st2 hs hh R2 K2 => ?_
    unfold evOp
    simp only [ho, if_pos h3, if_neg h4, if_pos h5, h1, h2, Option.bind_some, hown]
    rw [← hh]
    exact hb st2 (fun p hp => hs.ops _ (hmem p hp)) R2 _

/-- Reading behind a place, in either state. -/
theorem get_alike {st2 : St} {a : Operand} (hlp : LpOk E st) (hle : S.le (st.opnd a) (st2.opnd a)) (hbad : st.opnd a ≠ .bad)
    (hh : lpOf E a = none → st2.h = st.h) (hl : ∀ t, lpOf E a = some t → lkl st2.l t = lkl st.l t) :
    (∀ i, st2.get (st2.opnd a) i = st.get (st.opnd a) i) ∧ (∀ n, st2.getN (st2.opnd a) n = st.getN (st.opnd a) n) := by
  have e : st2.opnd a = st.opnd a := by
    rcases hle with h | h
    · exact absurd h hbad
    · exact h.symm
  rw [e]
  have hcase : (∃ t off, st.opnd a = .lp t off ∧ lpOf E a = some t) ∨ ((∀ t off, st.opnd a ≠ .lp t off) ∧ (st.opnd a = .un ∨ lpOf E a = none)) := by
    cases a with
    | tmp i =>
      have := hlp i
      show (∃ t off, lk st.s i = .lp t off ∧ E.lpT i = some t) ∨ ((∀ t off, lk st.s i ≠ .lp t off) ∧ (lk st.s i = .un ∨ E.lpT i = none))
      revert this
      cases hx : lk st.s i with
      | lp t off =>
        intro this
        simp only [lpOk] at this
        split at this
        · rename_i t' ht'
          have := Nat.eq_of_beq_eq_true this
          subst this
          exact .inl ⟨t, off, rfl, ht'⟩
        · cases this
      | un => intro _; exact .inr ⟨by simp, .inl rfl⟩
      | bad => exact absurd hx hbad
      | v x =>
        intro this
        simp only [lpOk] at this
        split at this
        · cases this
        · rename_i h; exact .inr ⟨by simp, .inr h⟩
      | p x =>
        intro this
        simp only [lpOk] at this
        split at this
        · cases this
        · rename_i h; exact .inr ⟨by simp, .inr h⟩
    | const v =>
      refine .inr ⟨?_, .inr rfl⟩
      simp only [St.opnd]
      split <;> simp
    | global g => exact absurd rfl hbad
    | func f => exact .inr ⟨by simp [St.opnd], .inr rfl⟩
  rcases hcase with ⟨t, off, h1, h2⟩ | ⟨h1, h2⟩
  · rw [h1]
    simp only [St.get, St.getN, hl t h2]
    exact ⟨fun _ => trivial, fun _ => trivial⟩
  · rcases h2 with h2 | h2
    · rw [h2]
      exact ⟨fun _ => rfl, fun _ => rfl⟩
    · have := hh h2
      cases hx : st.opnd a with
      | lp t off => exact absurd hx (h1 t off)
      | v x => simp only [St.get, St.getN, this]; exact ⟨fun _ => trivial, fun _ => trivial⟩
      | p x => simp only [St.get, St.getN, this]; exact ⟨fun _ => trivial, fun _ => trivial⟩
      | bad => exact absurd hx hbad
      | un => exact ⟨fun _ => rfl, fun _ => rfl⟩

theorem plOf_alike {x y : S} {p : V} (h : S.le x y) (hp : plOf x = some p) : plOf y = some p := by
  rcases h with h | h
  · rw [h] at hp; cases hp
  · rw [← h]; exact hp

theorem load_shape_ro {t : TypeId} {a : Operand} (hrl : rlOf E o = true) (ho : o.op = .load t a) (he : evOp E o st K = some r) : Shape E o st K r := by
  unfold evOp at he
  simp only [ho, hrl] at he
  split at he
  case h_2 => cases he
  rename_i p hp
  have main : ∀ st2, Alike E o st st2 → plOf (st2.opnd a) = some p := fun st2 hs => plOf_alike (hs.ops a (by simp [ho, Op.operands])) hp
  split at he
  · rename_i l hl
    obtain ⟨v, he, hv⟩ := dest_thru _ _ _ _ _ he
    refine shape_v he fun st2 hs => ⟨_, .inr rfl, fun R2 K2 => ?_⟩
    unfold evOp
    simp only [ho, hrl, hl, main st2 hs]
    exact hv R2 _
  · rename_i ls hl
    obtain ⟨v, he, hv⟩ := rdLs_thru _ _ _ _ _ _ he
    refine shape_v he fun st2 hs => ⟨_, .inr rfl, fun R2 K2 => ?_⟩
    unfold evOp
    simp only [ho, hrl, hl, main st2 hs]
    exact hv R2 _
  · cases he

theorem load_shape {t : TypeId} {a : Operand} (hlp : LpOk E st) (ho : o.op = .load t a) (he : evOp E o st K = some r) : Shape E o st K r := by
  cases hrl : rlOf E o with
  | true => exact load_shape_ro hrl ho he
  | false =>
  have hsk : skey E o = some (lpOf E a, false) := by simp only [skey, ho, hrl]
  have hbad : st.opnd a ≠ .bad := by
    intro hb
    unfold evOp at he
    simp only [ho, hrl, hb] at he
    split at he
    · rename_i l _
      obtain ⟨v, hv, _⟩ := dest_inv he
      simp [St.get] at hv
    · rename_i ls hls
      obtain ⟨vs, h1, h2, _⟩ := rdLs_inv he
      obtain ⟨_, _, c2⟩ := (tyOf_cases E.P 2 t).2.1 ls hls
      cases vs with
      | nil => simp at h1; omega
      | cons v vs => have := h2 0 v rfl; simp [St.get] at this
    · simp [St.getN] at he
    · cases he
  have main : ∀ st2, Alike E o st st2 → (∀ i, st2.get (st2.opnd a) i = st.get (st.opnd a) i) ∧ (∀ n, st2.getN (st2.opnd a) n = st.getN (st.opnd a) n) := fun st2 hs =>
    get_alike hlp (hs.ops a (by simp [ho, Op.operands])) hbad (fun h => hs.h false (by rw [hsk, h])) (fun t h => hs.l t false (by rw [hsk, h]))
  unfold evOp at he
  simp only [ho, hrl] at he
  split at he
  · rename_i l hl
    obtain ⟨v, he, hv⟩ := dest_thru _ _ _ _ _ he
    refine shape_v he fun st2 hs => ⟨_, .inr rfl, fun R2 K2 => ?_⟩
    unfold evOp
    simp only [ho, hrl, hl, (main st2 hs).1]
    exact hv R2 _
  · rename_i ls hl
    obtain ⟨v, he, hv⟩ := rdLs_thru _ _ _ _ _ _ he
    refine shape_v he fun st2 hs => ⟨_, .inr rfl, fun R2 K2 => ?_⟩
    unfold evOp
    simp only [ho, hrl, hl]
    rw [show st2.get (st2.opnd a) = st.get (st.opnd a) from funext (main st2 hs).1]
    exact hv R2 _
  · rename_i n hl
    obtain ⟨cs, hc, he⟩ := Option.bind_eq_some_iff.1 he
    refine shape_v he fun st2 hs => ⟨_, .inr rfl, fun R2 K2 => ?_⟩
    unfold evOp
    simp only [ho, hrl, hl, (main st2 hs).2, hc, Option.bind_some]
    rfl
  · cases he

theorem store_shape {t : TypeId} {a x : Operand} (hlp : LpOk E st) (ho : o.op = .store t a x) (he : evOp E o st K = some r) : Shape E o st K r := by
  have hsk : skey E o = some (lpOf E a, true) := by simp only [skey, ho]
  unfold evOp at he
  simp only [ho] at he
  split at he
  case h_2 => cases he
  rename_i v hx
  obtain ⟨xs, he, hc⟩ := cellsAs_thru _ _ _ _ _ he
  have hev : ∀ st2, Alike E o st st2 → ∀ (R2 : Type) (K2 : St → Option R2), evOp E o st2 K2 = st2.put (st2.opnd a) xs fun l h => fin E o st2 K2 .bad l h := by
    intro st2 hs R2 K2
    unfold evOp
    simp only [ho, S.le_v (hs.ops x (by simp [ho, Op.operands])) hx]
    exact hc R2 _
  have hle : ∀ st2, Alike E o st st2 → S.le (st.opnd a) (st2.opnd a) := fun st2 hs => hs.ops a (by simp [ho, Op.operands])
  have heap : ∀ p, (st.opnd a = .v p ∨ st.opnd a = .p p) → lpOf E a = none → ((wr st.h p xs).bind fun h => fin E o st K .bad st.l h) = some r → Shape E o st K r := by
    intro p hp hn he
    obtain ⟨h, hw, he⟩ := Option.bind_eq_some_iff.1 he
    refine shape_h (by rw [hsk, hn]) he fun st2 hs hh R2 K2 => ?_
    rw [hev st2 hs]
    have e : st2.opnd a = st.opnd a := by
      rcases hle st2 hs with h | h
      · rcases hp with hp | hp <;> (rw [hp] at h; cases h)
      · exact h.symm
    rw [e]
    rcases hp with hp | hp <;> (rw [hp]; simp only [St.put, hh, hw, Option.bind_some])
  have nolp : ∀ p, (st.opnd a = .v p ∨ st.opnd a = .p p) → lpOf E a = none := by
    intro p hp
    cases a with
    | tmp i =>
      have := hlp i
      replace hp : lk st.s i = .v p ∨ lk st.s i = .p p := hp
      show E.lpT i = none
      rcases hp with hp | hp <;> (rw [hp] at this; simp only [lpOk] at this; split at this <;> first | (cases this; done) | assumption)
    | const v => rfl
    | global g => rfl
    | func f => rfl
  cases hp : st.opnd a with
  | v p => rw [hp] at he; exact heap p (.inl hp) (nolp p (.inl hp)) he
  | p p => rw [hp] at he; exact heap p (.inr hp) (nolp p (.inr hp)) he
  | bad => rw [hp] at he; simp [St.put] at he
  | un => rw [hp] at he; simp [St.put] at he
  | lp t' off =>
    rw [hp] at he
    simp only [St.put] at he
    split at he
    case h_2 => cases he
    rename_i cs hcs
    split at he
    case isFalse => cases he
    rename_i hlen
    have hk : lpOf E a = some t' := by
      cases a with
      | tmp i =>
        have := hlp i
        replace hp : lk st.s i = .lp t' off := hp
        rw [hp] at this
        simp only [lpOk] at this
        split at this
        · rename_i t2 ht2
          have := Nat.eq_of_beq_eq_true this
          subst this
          exact ht2
        · cases this
      | const v => simp only [St.opnd] at hp; split at hp <;> cases hp
      | global g => cases hp
      | func f => cases hp
    rw [hk] at hsk
    refine ⟨_, _, _, he, fun st2 hs => ⟨.bad, (t', splice cs off xs) :: st2.l, st2.h, .inl rfl, ⟨.inr ⟨rfl, rfl⟩, fun t => ?_, fun h => (by rw [hsk] at h; cases h), fun t ht => ?_⟩, fun R2 K2 => ?_⟩⟩
    · by_cases h : t' = t
      · subst h; exact .inl hsk
      · right
        rw [lkl_cons, lkl_cons, if_neg h, if_neg h]
        exact ⟨rfl, rfl⟩
    · rw [hsk] at ht; cases ht
      rw [lkl_cons, lkl_cons, if_pos rfl, if_pos rfl]
    · rw [hev st2 hs]
      have e : st2.opnd a = .lp t' off := by
        rcases hle st2 hs with h | h
        · rw [hp] at h; cases h
        · rw [← h, hp]
      rw [e]
      simp only [St.put, hs.l t' true hsk, hcs, if_pos hlen]

end
end
end Go.L
