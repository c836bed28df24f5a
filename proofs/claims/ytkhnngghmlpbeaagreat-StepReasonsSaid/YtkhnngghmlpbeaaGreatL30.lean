/- Code, and functions, whatever order their regions draw. -/
import Derived.Test.YtkhnngghmlpbeaaGreatL29
import Derived.Scope
namespace Go.L
noncomputable section

theorem LpOk.norm {E : Env} {st : St} (h : LpOk E st) (o : Option (List Nat × List Nat)) : LpOk E (st.norm o) := by
  cases o with
  | none => exact h
  | some p =>
    obtain ⟨ls, ll⟩ := p
    intro i
    show lpOk E i (lk (normS (normL st.l ll) st.s ls) i) = true
    rcases lk_normS (normL st.l ll) st.s ls i with e | e
    · rw [e]; rfl
    · rw [e]
      have := h i
      cases hx : lk st.s i with
      | lp t off =>
        rw [hx] at this
        unfold keepS
        simp only
        split
        · exact this
        · rfl
      | v x => rw [hx] at this; exact this
      | p x => rw [hx] at this; exact this
      | bad => rfl
      | un => rfl

theorem filterMap_some' {α β : Type} {f : α → Option β} {g : α → β} : ∀ (l : List α), (∀ x ∈ l, f x = some (g x)) → l.filterMap f = l.map g
  | [], _ => rfl
  | x :: l, h => by
    rw [List.filterMap_cons, h x (List.mem_cons_self ..), List.map_cons, filterMap_some' l fun y hy => h y (List.mem_cons_of_mem _ hy)]

theorem rem_all {ops : Array Oper} {ord : List Nat} (hw : Whole ops ord) : rem ord (Array.replicate ops.size false) = ord := by
  unfold rem
  refine List.filter_eq_self.2 fun i hi => ?_
  have : i < ops.size := (hw.all i).1 hi
  simp [this]

/-- Is an operation, at most, a load, and so is all that it waits for? -/
def earlyOk (E : Env) (acc : List Bool) (o : Oper) : Bool :=
  (match skey E o with
    | none => true
    | some (_, w) => !w) && o.after.toList.all fun e => !(Region.binds .any e) || acc.getD e.on false

def earlies (E : Env) (l : List Oper) (acc : List Bool) : List Bool := l.foldl (fun acc o => acc ++ [earlyOk E acc o]) acc

def early (ops : Array Oper) (es : List Bool) : List Nat :=
  (List.range ops.size).filter (fun i => es.getD i false) ++ (List.range ops.size).filter (fun i => !es.getD i false)

/-- Is an operation a store, or does it wait for one? -/
def lateOk (acc : List Bool) (o : Oper) : Bool := (stAddr o).isSome || o.after.toList.any fun e => Region.binds .any e && acc.getD e.on false

def lates (l : List Oper) (acc : List Bool) : List Bool := l.foldl (fun acc o => acc ++ [lateOk acc o]) acc

/-- Does a call that writes into its first argument's object only wait for this one? -/
def isArg (E : Env) (ops : Array Oper) (ms : List Nat) (i : Nat) : Bool := (List.range ops.size).any fun j => match ops[j]? with
  | some o => (ownArg E o).isSome && (ms.getD j 0).testBit i
  | none => false

/-- What such a call waits for comes first. -/
def argsFirst (E : Env) (ops : Array Oper) : List Nat :=
  (List.range ops.size).filter (isArg E ops (masks ops.toList [])) ++ (List.range ops.size).filter (fun i => !isArg E ops (masks ops.toList []) i)

/-- Stores last. -/
def storesLast (ls : List Bool) (l : List Nat) : List Nat := l.filter (fun i => !ls.getD i false) ++ l.filter (fun i => ls.getD i false)

theorem halves {α : Type} (p : α → Bool) : ∀ l : List α, (l.filter (fun i => p i)).length + (l.filter (fun i => !p i)).length = l.length
  | [] => rfl
  | x :: l => by
    have := halves p l
    rw [List.filter_cons, List.filter_cons]
    cases p x <;> simp <;> omega

theorem whole_range (ops : Array Oper) : Whole ops (List.range ops.size) := ⟨List.nodup_range, fun i => List.mem_range, by simp⟩

theorem whole_split {ops : Array Oper} {l : List Nat} (w : Whole ops l) (p : Nat → Bool) : Whole ops (l.filter (fun i => !p i) ++ l.filter (fun i => p i)) := by
  refine ⟨List.nodup_append.2 ⟨w.nd.filter _, w.nd.filter _, fun a ha b hb e => ?_⟩, fun i => ?_, ?_⟩
  · subst e
    have h1 := (List.mem_filter.1 ha).2
    have h2 := (List.mem_filter.1 hb).2
    simp only [h2] at h1
    cases h1
  · rw [List.mem_append, List.mem_filter, List.mem_filter, w.all]
    constructor
    · rintro (h | h)
      · exact h.1
      · exact h.1
    · intro h
      cases hb : p i with
      | true => exact .inr ⟨h, rfl⟩
      | false => exact .inl ⟨h, rfl⟩
  · rw [List.length_append]
    have := halves p l
    have := w.len
    omega

theorem whole_early (ops : Array Oper) (es : List Bool) : Whole ops (early ops es) := by
  have h := whole_split (whole_range ops) (fun i => !es.getD i false)
  unfold early
  simpa using h

theorem whole_args (E : Env) (ops : Array Oper) : Whole ops (argsFirst E ops) := by
  have h := whole_split (whole_range ops) (fun i => !isArg E ops (masks ops.toList []) i)
  unfold argsFirst
  simpa using h

/-- One operation against those ahead: the places that must turn out to be two objects'. -/
def rowD (E : Env) (ops : Array Oper) (ms : List Nat) (j : Nat) : List (Nat × List Nat) → Option (List (Nat × Nat))
  | [] => some []
  | i :: t => match pairOk E ops ms i.1 j with
    | true => rowD E ops ms j t
    | false => match dynOf E ops i.1 j with
      | some p => match !(fills1 ops i.2 p.1) && !(fills1 ops i.2 p.2) with
        | true => (rowD E ops ms j t).bind fun r => some (p :: r)
        | false => none
      | none => none

def pairsD (E : Env) (ops : Array Oper) (ms : List Nat) : List (Nat × List Nat) → List Nat → Option (List (Nat × Nat))
  | _, [] => some []
  | pre, j :: r => (rowD E ops ms j pre).bind fun a => (pairsD E ops ms ((j, j :: r) :: pre) r).bind fun b => some (a ++ b)

theorem rowD_spec {E : Env} {ops : Array Oper} {ms : List Nat} {j : Nat} : ∀ {l : List (Nat × List Nat)} {r : List (Nat × Nat)}, rowD E ops ms j l = some r →
    (l.all fun i => pairOk E ops ms i.1 j || match dynOf E ops i.1 j with
    | some (a, b) => !(fills1 ops i.2 a) && !(fills1 ops i.2 b)
    | none => false) = true ∧ dynRow E ops ms j (l.map (·.1)) = r
  | [], r, h => by cases h; exact ⟨rfl, rfl⟩
  | i :: t, r, h => by
    rw [rowD] at h
    split at h
    · rename_i hp
      obtain ⟨h1, h2⟩ := rowD_spec h
      refine ⟨by rw [List.all_cons, h1, hp]; rfl, ?_⟩
      rw [List.map_cons, dynRow, hp]; exact h2
    · rename_i hp
      split at h
      · rename_i p hd
        split at h
        · rename_i hf
          obtain ⟨q, hq, h⟩ := Option.bind_eq_some_iff.1 h
          cases h
          obtain ⟨h1, h2⟩ := rowD_spec hq
          refine ⟨?_, ?_⟩
          · rw [List.all_cons, h1, hp, hd]
            obtain ⟨a, b⟩ := p
            simp only at hf ⊢
            rw [hf]; rfl
          · rw [List.map_cons, dynRow, hp, hd]; simp only; rw [h2]
        · cases h
      · cases h

theorem pairsD_spec {E : Env} {ops : Array Oper} {ms : List Nat} : ∀ {pre : List (Nat × List Nat)} {l : List Nat} {ds : List (Nat × Nat)}, pairsD E ops ms pre l = some ds → pairsOk E ops ms pre l = true ∧ dynPairs E ops ms (pre.map (·.1)) l = ds
  | pre, [], ds, h => by cases h; exact ⟨rfl, rfl⟩
  | pre, j :: r, ds, h => by
    rw [pairsD] at h
    obtain ⟨a, ha, h⟩ := Option.bind_eq_some_iff.1 h
    obtain ⟨b, hb, h⟩ := Option.bind_eq_some_iff.1 h
    cases h
    obtain ⟨h1, h2⟩ := rowD_spec ha
    obtain ⟨h3, h4⟩ := pairsD_spec hb
    refine ⟨by rw [pairsOk, h3, Bool.and_true]; exact h1, ?_⟩
    rw [dynPairs, h2]
    rw [List.map_cons] at h4
    rw [h4]

/-- Does each edge lead back? -/
def edgesOk (ops : Array Oper) : Bool := (List.range ops.size).all fun j => (match ops[j]? with
    | some o => o.after.toList.all fun e => !(Region.binds .any e) || Nat.ble (e.on + 1) j
    | none => true)

/-- An order, if it will do, and what must turn out. -/
def tryOrd (E : Env) (ops : Array Oper) (ord : List Nat) : Option (List Oper × List (Nat × Nat)) :=
  (pairsD E ops (masks ops.toList []) [] ord).bind fun ds => some (ord.filterMap (ops[·]?), ds)

def planR (E : Env) (ops : Array Oper) (draw : Bool) : Option (List Oper × List (Nat × Nat)) :=
  match draw with
  | false => some (ops.toList, [])
  | true => match E.P.follows .mixedOrders && edgesOk ops with
    | false => none
    | true => match tryOrd E ops (List.range ops.size) with
      | some p => some p
      | none => match tryOrd E ops (early ops (earlies E ops.toList [])) with
        | some p => some p
        | none => match tryOrd E ops (storesLast (lates ops.toList []) (early ops (earlies E ops.toList []))) with
          | some p => some p
          | none => tryOrd E ops (argsFirst E ops)

theorem tryOrd_spec {E : Env} {ops : Array Oper} {ord : List Nat} {l : List Oper} {ds : List (Nat × Nat)} (he : edgesOk ops = true) (h : tryOrd E ops ord = some (l, ds)) : drawOk E ops ord = true ∧ l = ord.filterMap (ops[·]?) ∧ dynPairs E ops (masks ops.toList []) [] ord = ds := by
  unfold tryOrd at h
  obtain ⟨d, hd, h⟩ := Option.bind_eq_some_iff.1 h
  cases h
  obtain ⟨h1, h2⟩ := pairsD_spec hd
  refine ⟨?_, rfl, h2⟩
  unfold drawOk
  rw [h1, Bool.and_true]
  exact he

theorem planR_spec {E : Env} {ops : Array Oper} {draw : Bool} {l : List Oper} {ds : List (Nat × Nat)} (h : planR E ops draw = some (l, ds)) :
    (draw = false ∧ l = ops.toList ∧ ds = []) ∨ (draw = true ∧ E.P.follows .mixedOrders = true ∧ ∃ ord, Whole ops ord ∧ drawOk E ops ord = true ∧ l = ord.filterMap (ops[·]?) ∧ dynPairs E ops (masks ops.toList []) [] ord = ds) := by
  unfold planR at h
  split at h
  · cases h; exact .inl ⟨rfl, rfl, rfl⟩
  · split at h
    · cases h
    · rename_i hb
      simp only [Bool.and_eq_true] at hb
      refine .inr ⟨rfl, hb.1, ?_⟩
      split at h
      · rename_i p hp
        cases h
        obtain ⟨h1, h2, h3⟩ := tryOrd_spec hb.2 hp
        exact ⟨_, whole_range ops, h1, h2, h3⟩
      · split at h
        · rename_i p hp
          cases h
          obtain ⟨h1, h2, h3⟩ := tryOrd_spec hb.2 hp
          exact ⟨_, whole_early ops _, h1, h2, h3⟩
        · split at h
          · rename_i p hp
            cases h
            obtain ⟨h1, h2, h3⟩ := tryOrd_spec hb.2 hp
            exact ⟨_, whole_split (whole_early ops _) _, h1, h2, h3⟩
          · obtain ⟨h1, h2, h3⟩ := tryOrd_spec hb.2 h
            exact ⟨_, whole_args E ops, h1, h2, h3⟩

theorem planR_mem {E : Env} {ops : Array Oper} {draw : Bool} {l : List Oper} {ds : List (Nat × Nat)} (h : planR E ops draw = some (l, ds)) {o : Oper} (ho : o ∈ l) : o ∈ ops.toList := by
  rcases planR_spec h with ⟨_, rfl, _⟩ | ⟨_, _, ord, _, _, rfl, _⟩
  · exact ho
  · obtain ⟨i, _, hi⟩ := List.mem_filterMap.1 ho
    obtain ⟨_, he⟩ := Array.getElem?_eq_some_iff.1 hi
    rw [← he]
    simp

def sepK {R : Type} (s : List (Nat × S)) : List (Nat × Nat) → Option R → Option R
  | [], r => r
  | p :: t, r => (sepS (lk s p.1) (lk s p.2)).bind fun _ => sepK s t r

theorem sepK_eq {R : Type} (s : List (Nat × S)) : ∀ (l : List (Nat × Nat)) (r : Option R), sepK s l r = (sepAll s l).bind fun _ => r
  | [], r => rfl
  | p :: t, r => by
    rw [sepK, sepAll]
    cases sepS (lk s p.1) (lk s p.2) with
    | none => rfl
    | some u => simp only [Option.bind_some]; exact sepK_eq s t r

def xeq : X → X → Bool
  | .normal, .normal => true
  | .exit a, .exit b => Nat.beq a b
  | .ret, .ret => true
  | .goto a, .goto b => Nat.beq a b
  | _, _ => false

def Alt.norm (a : Alt) (st : St) : St := st.norm (some (a.ix, a.lx))
def Alt.enc (a : Alt) (st : St) : Option a.T := encSs a.ks (a.norm st).s (encLl a.ls a.lx (a.norm st).l (some st.h))
def Alt.dec (a : Alt) (t : a.T) : St := ⟨(decSs a.ks a.ix t).1, (decLl a.ls a.lx (decSs a.ks a.ix t).2).1, (decLl a.ls a.lx (decSs a.ks a.ix t).2).2⟩

def encA : (as : List Alt) → X → St → Option (AltT as)
  | [], _, _ => none
  | [a], x, st => match xeq a.x x with
    | true => a.enc st
    | false => none
  | a :: b :: r, x, st => match xeq a.x x with
    | true => (a.enc st).bind fun s => some (.inl s)
    | false => (encA (b :: r) x st).bind fun s => some (.inr s)

def decA : (as : List Alt) → AltT as → {R : Type} → (X → St → Option R) → Option R
  | [], _, _, _ => none
  | [a], s, _, K => K a.x (a.dec s)
  | a :: b :: r, s, _, K => match s with
    | .inl s => K a.x (a.dec s)
    | .inr s => decA (b :: r) s K

/-- How a round of a loop goes on. -/
def LoopA.next (A : LoopA) (n : Nat) (x : X) (st : St) : Option (AltT A.outs) :=
  match x with
  | .normal => (A.head.enc st).bind (A.L n)
  | x => encA A.outs x st

/-- How a pass from a label goes on. -/
def LoopA.back (A : LoopA) (l n : Nat) (x : X) (st : St) : Option (AltT A.outs) :=
  match x with
  | .goto i => match Nat.beq i l with
    | true => (A.head.enc st).bind (A.L n)
    | false => encA A.outs (.goto i) st
  | x => encA A.outs x st

/-- A label's name. -/
def lbKey (l : Nat) : Nat := 1000000 + l

/-- What comes of a jump to a label of a scope. -/
def hnd {R : Type} (E : Env) (N : Nat) (c : Code) (K : X → St → Option R) : Nat → X → St → Option R
  | 0, x, st => match x with
    | .goto _ => none
    | x => K x st
  | d + 1, x, st => match x with
    | .goto l => match findLabel c l with
      | some _ => match E.lp (lbKey l) with
        | some A => (A.head.enc st).bind fun s => (A.L N s).bind fun o => decA A.outs o (hnd E N c K d)
        | none => none
      | none => none
    | x => K x st

/-- Which join: by its slot and its branches. -/
def jnOf (E : Env) (c : Operand) (a b : Code) : Option (List Alt) :=
  match c with
  | .tmp t => E.jn (t + 65536 * lid a + 268435456 * lid b)
  | _ => none

/-- How many places a region keeps ahead. -/
def keeps (E : Env) (ops : Array Oper) : Nat := (ops.toList.filter fun o => (fillOf E o).isSome).length

def keepSt (E : Env) (ops : Array Oper) (st : St) : St :=
  match keeps E ops with
  | 0 => st
  | k + 1 => ⟨st.s, st.l, st.h ++ List.replicate (k + 1) .rsv⟩

def ev {R : Type} (E : Env) (N : Nat) : Code → St → (X → St → Option R) → Option R
  | .skip, st, K => K .normal st
  | .region _ ops draw, st, K => match planR E ops draw with
    | some (l, ds) => evOps E ops (ops.size + ops.size) [] l (keepSt E ops st) fun st => (sepAll st.s []).bind fun _ => sepK st.s ds (K .normal st)
    | none => none
  | .seq a b, st, K => ev E N a st fun x st => match x with
    | .normal => ev E N b st K
    | x => K x st
  | .cond c a b, st, K => match st.opnd c with
    | .v (.bool t) => match jnOf E c a b with
      | none => if t = true then ev E N a st K else ev E N b st K
      | some as => (if t = true then ev E N a st (encA as) else ev E N b st (encA as)).bind fun s => decA as s K
    | _ => none
  | .block id c, st, K => ev E N c st fun x st => match x with
    | .exit i => match Nat.beq i id with
      | true => K .normal st
      | false => K (.exit i) st
    | x => K x st
  | .loop c, st, K => match E.lp (lid c) with
    | some A => (A.head.enc st).bind fun s => (A.L N s).bind fun o => decA A.outs o K
    | none => none
  | .exit id, st, K => K (.exit id) st
  | .ret, st, K => K .ret st
  | .label _, st, K => K .normal st
  | .goto l, st, K => K (.goto l) st
  | .scope c, st, K => ev E N c st (hnd E N c K 2)
  | _, _, _ => none

/-- A function, of what it gets to what it gives. -/
def evFT (E : Env) (N : Nat) (fn : Func) (ks rs : List SK) (t : Tup ks H) : Option (Tup rs H) :=
  match fn.body with
  | some c => ev E N c ⟨argSlots 0 (decVs ks t).1, [], (decVs ks t).2⟩ fun x st => match x with
    | .normal | .ret => resVs E st fn.results.toList fun vs => encVs rs vs (some st.h)
    | .exit _ => none
    | .goto _ => none
  | none => none

def mkFun (ks rs : List SK) (F : Tup ks H → Option (Tup rs H)) : Fun := ⟨Tup rs H, fun vs h => (encVs ks vs (some h)).bind F, outR rs⟩
def mkP (ks rs : List SK) (F : Tup ks H → Option (Tup rs H)) : PFun := ⟨Tup rs H, fun vs => (encVs ks vs (some [])).bind F, fun s => (outR rs s).1⟩

/-! Codecs: what is told is what is kept. -/
theorem ofV_law : ∀ (l : LK) (v : V) (x : l.T), l.ofV v = some x → l.toV x = v
  | .int k, v, x, h => by
    simp only [LK.ofV, asInt] at h
    split at h
    · rename_i k' n e
      cases e
      split at h
      · rename_i e; subst e; cases h; rfl
      · cases h
    · cases h
  | .bool, v, x, h => by
    simp only [LK.ofV, asBool] at h
    split at h
    · rename_i e; cases e; cases h; rfl
    · cases h
  | .str, v, x, h => by
    simp only [LK.ofV, asStr] at h
    split at h
    · rename_i e; cases e; cases h; rfl
    · cases h
  | .float k, v, x, h => by
    simp only [LK.ofV, asFloat] at h
    split at h
    · rename_i e
      cases e
      split at h
      · rename_i e; subst e; cases h; rfl
      · cases h
    · cases h
  | .cplx k, v, x, h => by
    simp only [LK.ofV, asCplx'] at h
    split at h
    · rename_i e
      cases e
      split at h
      · rename_i e; subst e; cases h; rfl
      · cases h
    · cases h
  | .ref, v, x, h => by simp only [LK.ofV] at h; cases h; rfl

theorem encLs_law : ∀ (ls : List LK) (vs : List V) {E : Type} (e : Option E) (t : TupL ls E), encLs ls vs e = some t → ∃ y, e = some y ∧ decLs ls t = (vs, y)
  | [], vs, _, e, t, h => by
    cases vs with
    | nil => exact ⟨t, h, rfl⟩
    | cons v vs => cases h
  | l :: r, vs, _, e, t, h => by
    cases vs with
    | nil => cases h
    | cons v vs =>
      obtain ⟨x, hx, h⟩ := Option.bind_eq_some_iff.1 h
      obtain ⟨y, hy, h⟩ := Option.bind_eq_some_iff.1 h
      have h := Option.some.inj h
      subst h
      obtain ⟨z, hz, hd⟩ := encLs_law r vs e y hy
      exact ⟨z, hz, by simp only [decLs, hd, ofV_law l v x hx]⟩

theorem asCells_inv {v : V} {cs : List V} (h : asCells v = some cs) : v = .agg cs := by
  cases v <;> simp only [asCells] at h <;> first | (cases h; rfl) | cases h

theorem asClo_inv {f : FuncId} {v : V} {cs : List V} (h : asClo f v = some cs) : v = .fn f cs := by
  cases v <;> simp only [asClo] at h <;> try cases h
  split at h
  · rename_i h1
    cases h
    rw [Nat.eq_of_beq_eq_true h1]
  · cases h

theorem encV_law : ∀ (k : SK) (v : V) {E : Type} (e : Option E) (t : k.T E), k.encV v e = some t → ∃ y, e = some y ∧ k.decV t = (v, y) ∧ k.dec t = (.v v, y)
  | .one l, v, E, e, t, h => by
    obtain ⟨x, hx, h⟩ := Option.bind_eq_some_iff.1 h
    obtain ⟨y, hy, h⟩ := Option.bind_eq_some_iff.1 h
    have h := Option.some.inj h
    subst h
    exact ⟨y, hy, by simp only [SK.decV, ofV_law l v x hx], by simp only [SK.dec, ofV_law l v x hx]⟩
  | .agg ls, v, E, e, t, h => by
    obtain ⟨cs, hcs, h⟩ := Option.bind_eq_some_iff.1 h
    cases asCells_inv hcs
    obtain ⟨y, hy, hd⟩ := encLs_law ls cs e t h
    exact ⟨y, hy, by simp only [SK.decV, hd], by simp only [SK.dec, hd]⟩
  | .blk, v, E, e, t, h => by
    obtain ⟨cs, hcs, h⟩ := Option.bind_eq_some_iff.1 h
    obtain ⟨y, hy, h⟩ := Option.bind_eq_some_iff.1 h
    have h := Option.some.inj h
    subst h
    cases asCells_inv hcs
    exact ⟨y, hy, rfl, rfl⟩
  | .clo f ls, v, E, e, t, h => by
    obtain ⟨cs, hcs, h2⟩ := Option.bind_eq_some_iff.1 h
    have h1 := asClo_inv hcs
    subst h1
    obtain ⟨y, hy, hd⟩ := encLs_law ls cs e t h2
    exact ⟨y, hy, by simp only [SK.decV, hd], by simp only [SK.dec, hd]⟩
  | .lp a b, v, E, e, t, h => by cases h

theorem asSv_inv {x : S} {v : V} (h : asSv x = some v) : x = .v v := by
  cases x <;> simp only [asSv] at h <;> first | (cases h; rfl) | cases h

theorem asLp_inv {a b : Nat} {x : S} {u : Unit} (h : asLp a b x = some u) : x = .lp a b := by
  cases x <;> simp only [asLp] at h <;> try cases h
  split at h
  · rename_i h1 h2
    rw [Nat.eq_of_beq_eq_true h1, Nat.eq_of_beq_eq_true h2]
  · cases h

theorem enc_law : ∀ (k : SK) (x : S) {E : Type} (e : Option E) (t : k.T E), k.enc x e = some t → ∃ y, e = some y ∧ k.dec t = (x, y)
  | .lp a b, x, E, e, t, h => by
    obtain ⟨u, hu, h2⟩ := Option.bind_eq_some_iff.1 h
    have h1 := asLp_inv hu
    subst h1
    exact ⟨t, h2, rfl⟩
  | .one l, x, E, e, t, h => by
    obtain ⟨v, hv, h⟩ := Option.bind_eq_some_iff.1 h
    cases asSv_inv hv
    obtain ⟨y, hy, _, hd⟩ := encV_law (.one l) v e t h
    exact ⟨y, hy, hd⟩
  | .agg ls, x, E, e, t, h => by
    obtain ⟨v, hv, h⟩ := Option.bind_eq_some_iff.1 h
    cases asSv_inv hv
    obtain ⟨y, hy, _, hd⟩ := encV_law (.agg ls) v e t h
    exact ⟨y, hy, hd⟩
  | .blk, x, E, e, t, h => by
    obtain ⟨v, hv, h⟩ := Option.bind_eq_some_iff.1 h
    cases asSv_inv hv
    obtain ⟨y, hy, _, hd⟩ := encV_law .blk v e t h
    exact ⟨y, hy, hd⟩
  | .clo f ls, x, E, e, t, h => by
    obtain ⟨v, hv, h⟩ := Option.bind_eq_some_iff.1 h
    cases asSv_inv hv
    obtain ⟨y, hy, _, hd⟩ := encV_law (.clo f ls) v e t h
    exact ⟨y, hy, hd⟩

theorem encSs_law : ∀ (ks : List SK) (ix : List Nat) (xs : List (Nat × S)) {E : Type} (e : Option E) (t : Tup ks E), xs.map (·.1) = ix → encSs ks xs e = some t → ∃ y, e = some y ∧ decSs ks ix t = (xs, y)
  | [], ix, xs, _, e, t, hi, h => by
    cases xs with
    | nil => exact ⟨t, h, rfl⟩
    | cons x xs => cases h
  | k :: r, ix, xs, _, e, t, hi, h => by
    cases xs with
    | nil => cases h
    | cons x xs =>
      obtain ⟨y, hy, hd⟩ := enc_law k _ _ t h
      subst hi
      obtain ⟨z, hz, hd'⟩ := encSs_law r (xs.map (·.1)) xs e y rfl hy
      refine ⟨z, hz, ?_⟩
      simp only [decSs, List.map_cons, List.tail_cons, List.headD_cons, hd, hd']

theorem encVs_law : ∀ (ks : List SK) (xs : List V) {E : Type} (e : Option E) (t : Tup ks E), encVs ks xs e = some t → ∃ y, e = some y ∧ decVs ks t = (xs, y)
  | [], xs, _, e, t, h => by
    cases xs with
    | nil => exact ⟨t, h, rfl⟩
    | cons x xs => cases h
  | k :: r, xs, _, e, t, h => by
    cases xs with
    | nil => cases h
    | cons x xs =>
      obtain ⟨y, hy, hd, _⟩ := encV_law k _ _ t h
      obtain ⟨z, hz, hd'⟩ := encVs_law r xs e y hy
      refine ⟨z, hz, ?_⟩
      simp only [decVs, hd, hd']

theorem encl_law : ∀ (k : LSp) (x : List V) {E : Type} (e : Option E) (t : k.T E), k.enc x e = some t → ∃ y, e = some y ∧ k.dec t = (x, y)
  | .cells ls, x, E, e, t, h => encLs_law ls x e t h
  | .blk, x, E, e, t, h => by
    obtain ⟨y, hy, h⟩ := Option.bind_eq_some_iff.1 h
    have h := Option.some.inj h
    subst h
    exact ⟨y, hy, rfl⟩

theorem encLl_law : ∀ (ks : List LSp) (ix : List Nat) (xs : List (Nat × List V)) {E : Type} (e : Option E) (t : TupV ks E), encLl ks ix xs e = some t → ∃ y, e = some y ∧ decLl ks ix t = (xs, y)
  | [], ix, xs, _, e, t, h => by
    cases xs with
    | nil => exact ⟨t, h, rfl⟩
    | cons x xs => cases h
  | k :: r, ix, xs, _, e, t, h => by
    cases xs with
    | nil => cases h
    | cons x xs =>
      cases ix with
      | nil => cases h
      | cons i ix =>
        unfold encLl at h
        simp only at h
        split at h
        · rename_i hb
          have hi := Nat.eq_of_beq_eq_true hb
          obtain ⟨y, hy, hd⟩ := encl_law k _ _ t h
          obtain ⟨z, hz, hd'⟩ := encLl_law r ix xs e y hy
          refine ⟨z, hz, ?_⟩
          simp only [decLl, List.headD_cons, List.tail_cons, hd, hd', ← hi]
        · cases h

theorem normS_ix (l : List (Nat × List V)) (s : List (Nat × S)) : ∀ ls : List Nat, (normS l s ls).map (·.1) = ls
  | [] => rfl
  | i :: r => by simp only [normS, List.map_cons, normS_ix l s r]

theorem alt_law (a : Alt) (st : St) (t : a.T) (h : a.enc st = some t) : a.dec t = a.norm st := by
  unfold Alt.enc at h
  have hn : (a.norm st).s.map (·.1) = a.ix := normS_ix _ _ _
  obtain ⟨y, hy, hd⟩ := encSs_law a.ks a.ix _ _ t hn h
  obtain ⟨z, hz, hd'⟩ := encLl_law a.ls a.lx _ _ y hy
  cases hz
  unfold Alt.dec
  rw [hd]
  simp only [hd']
  rfl

theorem xeq_eq {x y : X} (h : xeq x y = true) : x = y := by
  cases x <;> cases y <;> simp only [xeq] at h <;> first | rfl | (cases h; done) | (rw [Nat.eq_of_beq_eq_true h])

theorem encA_law : ∀ (as : List Alt) (x : X) (st : St) (s : AltT as), encA as x st = some s → ∃ a : Alt, ∀ (R : Type) (K : X → St → Option R), decA as s K = K x (a.norm st)
  | [], x, st, s, h => by cases h
  | [a], x, st, s, h => by
    simp only [encA] at h
    split at h
    · rename_i hx
      have := xeq_eq hx
      subst this
      refine ⟨a, fun R K => ?_⟩
      simp only [decA]
      rw [alt_law a st s h]
    · cases h
  | a :: b :: r, x, st, s, h => by
    simp only [encA] at h
    split at h
    · rename_i hx
      have := xeq_eq hx
      subst this
      obtain ⟨t, ht, h⟩ := Option.bind_eq_some_iff.1 h
      have h := Option.some.inj h
      subst h
      refine ⟨a, fun R K => ?_⟩
      simp only [decA]
      rw [alt_law a st t ht]
    · obtain ⟨t, ht, h⟩ := Option.bind_eq_some_iff.1 h
      have h := Option.some.inj h
      subst h
      obtain ⟨a', ha⟩ := encA_law (b :: r) x st t ht
      exact ⟨a', fun R K => by simp only [decA]; exact ha R K⟩

theorem region_sound {E : Env} (hE : Good E) {R : Type} {st : St} {K : St → Option R} {r : R} {ρ : Ren} {lo : Nat → Option Nat} {a : Act} {w : World} {Q : Exit → Act → World → Prop}
    {id : Nat} {ops : Array Oper} {draw : Bool} {p : List Oper × List (Nat × Nat)} (hc : planR E ops draw = some p) (he : (evOps E ops (ops.size + ops.size) [] p.1 st fun st => sepK st.s p.2 (K st)) = some r)
    (hr : RelA E.n ρ lo st a w) (hlp : LpOk E st)
    (hn : ∀ (st' : St) (ρ' : Ren) (lo' : Nat → Option Nat) (a' : Act) (w' : World), K st' = some r → RelA E.n ρ' lo' st' a' w' → LpOk E st' → Step ρ lo w ρ' lo' w' → Q .normal a' w') :
    (Code.region id ops draw).wp E.P Q a w := by
  obtain ⟨st', sf, k1, k0, k3, k4⟩ := evOps_flat _ _ _ he hlp
  rw [sepK_eq] at k0
  obtain ⟨_, hsp, k2⟩ := Option.bind_eq_some_iff.1 k0
  clear k0
  obtain ⟨l, ds⟩ := p
  rcases planR_spec hc with ⟨hd, h1, _⟩ | ⟨hd, hfo, ord, hw, hdr, h1, h2⟩
  · subst hd
    simp only at k1
    rw [h1] at k1
    refine wp_region_list ?_
    rw [← wpL_list]
    exact flat_sound hE _ k1 hr fun ρ' lo' a' w' hr' hs' => hn st' ρ' lo' a' w' k2 (hr'.le k3) k4 hs'
  · subst hd
    simp only at k1 hsp
    rw [h1] at k1
    have hrd : RelA E.n ρ lo st a { w with drawn := w.drawn + 1 } :=
      ⟨⟨hr.h.n, hr.h.live, hr.h.obj, hr.h.inj, hr.h.ro, hr.h.sep, hr.h.rsv⟩, hr.s, hr.l, hr.ldom, hr.lout, hr.linj, hr.size, hr.defs⟩
    have hsd : Step ρ lo w ρ lo { w with drawn := w.drawn + 1 } := ⟨.refl ρ, ⟨rfl, rfl, fun _ => rfl⟩, Nat.le_refl _, fun _ _ h h' => ⟨rfl, h, h', rfl⟩⟩
    refine wp_region_any hfo (any_sound hE hw hdr (ds := ds) (fun p hp => by rw [← h2]; exact hp) ops.size _ (by simp) ?_ ?_ (by rw [rem_all hw]; exact k1) (sepAll_le k3.s hsp) hlp hrd
      fun sF ρ' lo' a' w' hle hr' hs' => hn st' ρ' lo' a' w' k2 (hr'.le (St.le_trans k3 hle)) k4 (hsd.trans hs'))
    · rw [rem_all hw]
      exact hw.len
    · intro j o hj ho
      have : j < ops.size := (Array.getElem?_eq_some_iff.1 ho).1
      simp [this] at hj

theorem keepSt_rel {E : Env} (ops : Array Oper) {st : St} {ρ : Ren} {lo : Nat → Option Nat} {a : Act} {w : World} (hr : RelA E.n ρ lo st a w) (hlp : LpOk E st) :
    ∃ ρ', RelA E.n ρ' lo (keepSt E ops st) a w ∧ Step ρ lo w ρ' lo w ∧ LpOk E (keepSt E ops st) := by
  unfold keepSt
  split
  · exact ⟨ρ, hr, .refl _ _ _, hlp⟩
  · rename_i k _
    obtain ⟨ρ', h1, h2⟩ := keep_all hr (k + 1)
    exact ⟨ρ', h1, h2, hlp⟩

/-- What a loop's summary owes. -/
structure LoopOk (E : Env) (N : Nat) (c : Code) (A : LoopA) : Prop where
  zero : ∀ s, A.L 0 s = none
  succ : ∀ n s, A.L (n + 1) s = ev E N c (A.head.dec s) (A.next n)

/-- What a label's summary owes. -/
structure LabelOk (E : Env) (N : Nat) (l : Nat) (c : Code) (A : LoopA) : Prop where
  zero : ∀ s, A.L 0 s = none
  succ : ∀ n s, A.L (n + 1) s = ev E N c (A.head.dec s) (A.back l n)

def LGood (E : Env) (N : Nat) : Code → Prop
  | .seq a b => LGood E N a ∧ LGood E N b
  | .cond _ a b => LGood E N a ∧ LGood E N b
  | .block _ c => LGood E N c
  | .loop c => LGood E N c ∧ ∀ A, E.lp (lid c) = some A → LoopOk E N c A
  | .scope c => LGood E N c ∧ ∀ l rest A, findLabel c l = some rest → E.lp (lbKey l) = some A → LabelOk E N l rest A
  | _ => True

theorem LGood.lab {E : Env} {N : Nat} {l : Nat} : ∀ {c rest : Code}, LGood E N c → findLabel c l = some rest → LGood E N rest
  | .seq a b, rest, h, hf => by
    simp only [findLabel] at hf
    split at hf
    · rename_i r hr
      cases hf
      exact ⟨LGood.lab h.1 hr, h.2⟩
    · exact LGood.lab h.2 hf
  | .label l', rest, h, hf => by
    simp only [findLabel] at hf
    split at hf
    · cases hf; trivial
    · cases hf
  | .skip, rest, h, hf => by cases hf
  | .region .., rest, h, hf => by cases hf
  | .cond .., rest, h, hf => by cases hf
  | .block .., rest, h, hf => by cases hf
  | .loop .., rest, h, hf => by cases hf
  | .rangeFunc .., rest, h, hf => by cases hf
  | .exit .., rest, h, hf => by cases hf
  | .scope .., rest, h, hf => by cases hf
  | .goto .., rest, h, hf => by cases hf
  | .ret, rest, h, hf => by cases hf
  | .refuse .., rest, h, hf => by cases hf

theorem findLabel_size {l : Nat} : ∀ {c rest : Code}, findLabel c l = some rest → SizeOf.sizeOf rest ≤ SizeOf.sizeOf c
  | .seq a b, rest, hf => by
    simp only [findLabel] at hf
    split at hf
    · rename_i r hr
      cases hf
      have := findLabel_size hr
      simp only [Code.seq.sizeOf_spec]
      omega
    · have := findLabel_size hf
      simp only [Code.seq.sizeOf_spec]
      omega
  | .label l', rest, hf => by
    simp only [findLabel] at hf
    split at hf
    · cases hf; simp
    · cases hf
  | .skip, rest, hf => by cases hf
  | .region .., rest, hf => by cases hf
  | .cond .., rest, hf => by cases hf
  | .block .., rest, hf => by cases hf
  | .loop .., rest, hf => by cases hf
  | .rangeFunc .., rest, hf => by cases hf
  | .exit .., rest, hf => by cases hf
  | .scope .., rest, hf => by cases hf
  | .goto .., rest, hf => by cases hf
  | .ret, rest, hf => by cases hf
  | .refuse .., rest, hf => by cases hf

/-- From a jump to a label on. -/
def Lands (P : Program) (c : Code) (Q : Exit → Act → World → Prop) (l : Nat) (a : Act) (w : World) : Prop :=
  ∃ rest, findLabel c l = some rest ∧ ∀ (b : Frame) (k : List Item) (cs : List Frame), ∃ e a' w', Q e a' w' ∧ Arrives P (lone (b.at a (.code rest :: .inScope c :: k)) cs w) b k cs e a' w'

def jumps (P : Program) (c : Code) (Q : Exit → Act → World → Prop) : Exit → Act → World → Prop
  | .goto l, a, w => Lands P c Q l a w
  | e, a, w => Q e a w

theorem lands_of {P : Program} {c rest : Code} {Q : Exit → Act → World → Prop} {l : Nat} {a : Act} {w : World} (hf : findLabel c l = some rest) (h : rest.wp P (jumps P c Q) a w) : Lands P c Q l a w := by
  refine ⟨rest, hf, fun b k cs => ?_⟩
  obtain ⟨e, a₁, w₁, hq, harr⟩ := h b (.inScope c :: k) cs
  cases e with
  | normal => exact ⟨.normal, a₁, w₁, hq, Steps.trans harr (.one step_inScope)⟩
  | exit id => exact ⟨.exit id, a₁, w₁, hq, fun k' hk => harr k' (by simp [exitTo, hk])⟩
  | goto l' =>
    obtain ⟨rest', hf', hl⟩ := hq
    obtain ⟨e₂, a₂, w₂, hq₂, harr₂⟩ := hl b k cs
    exact ⟨e₂, a₂, w₂, hq₂, .of_steps (harr _ (by simp [gotoIn, hf'])) harr₂⟩
  | ret => exact ⟨_, a₁, w₁, hq, harr⟩
  | panic ch => exact ⟨_, a₁, w₁, hq, harr⟩
  | outgrown => exact ⟨_, a₁, w₁, hq, harr⟩

theorem wp_scope_of {P : Program} {c : Code} {Q : Exit → Act → World → Prop} {a : Act} {w : World} (h : c.wp P (jumps P c Q) a w) : (Code.scope c).wp P Q a w := by
  intro b k cs
  obtain ⟨e, a₁, w₁, hq, harr⟩ := h b (.inScope c :: k) cs
  cases e with
  | normal => exact ⟨.normal, a₁, w₁, hq, .head step_scope (Steps.trans harr (.one step_inScope))⟩
  | exit id => exact ⟨.exit id, a₁, w₁, hq, fun k' hk => .head step_scope (harr k' (by simp [exitTo, hk]))⟩
  | goto l' =>
    obtain ⟨rest', hf', hl⟩ := hq
    obtain ⟨e₂, a₂, w₂, hq₂, harr₂⟩ := hl b k cs
    exact ⟨e₂, a₂, w₂, hq₂, .of_steps (.head step_scope (harr _ (by simp [gotoIn, hf']))) harr₂⟩
  | ret => exact ⟨_, a₁, w₁, hq, .of_steps (.one step_scope) harr⟩
  | panic ch => exact ⟨_, a₁, w₁, hq, .of_steps (.one step_scope) harr⟩
  | outgrown => exact ⟨_, a₁, w₁, hq, .of_steps (.one step_scope) harr⟩

theorem ev_sound {E : Env} (hE : Good E) : ∀ (c : Code) (N : Nat), LGood E N c → ∀ {R : Type} {st : St} {K : X → St → Option R} {r : R} {ρ : Ren} {lo : Nat → Option Nat} {a : Act} {w : World}
    {Q : Exit → Act → World → Prop}, ev E N c st K = some r → RelA E.n ρ lo st a w → LpOk E st →
    (∀ (x : X) (st' : St) (ρ' : Ren) (lo' : Nat → Option Nat) (a' : Act) (w' : World), K x st' = some r → RelA E.n ρ' lo' st' a' w' → LpOk E st' → Step ρ lo w ρ' lo' w' → Q x.exit' a' w') →
    c.wp E.P Q a w
  | .skip, N, hL, R, st, K, r, ρ, lo, a, w, Q, he, hr, hlp, hn => wp_skip (hn .normal st ρ lo a w he hr hlp (.refl _ _ _))
  | .region id ops draw, N, hL, R, st, K, r, ρ, lo, a, w, Q, he, hr, hlp, hn => by
    simp only [ev] at he
    split at he
    case h_2 => cases he
    rename_i l ds hc
    obtain ⟨ρ1, hr1, hs1, hlp1⟩ := keepSt_rel ops hr hlp
    have he' : (evOps E ops (ops.size + ops.size) [] l (keepSt E ops st) fun st => sepK st.s ds (K .normal st)) = some r := by
      exact he
    refine region_sound hE hc (K := K .normal) he' hr1 hlp1 fun st' ρ' lo' a' w' hk hr' hlp' hs => hn .normal st' ρ' lo' a' w' hk hr' hlp' (hs1.trans hs)
  | .seq x y, N, hL, R, st, K, r, ρ, lo, a, w, Q, he, hr, hlp, hn => by
    simp only [ev] at he
    refine wp_seq (ev_sound hE x N hL.1 he hr hlp fun e st' ρ' lo' a' w' hk hr' hlp' hs => ?_)
    cases e with
    | normal => exact ev_sound hE y N hL.2 hk hr' hlp' fun e st'' ρ'' lo'' a'' w'' hk' hr'' hlp'' hs' => hn e st'' ρ'' lo'' a'' w'' hk' hr'' hlp'' (hs.trans hs')
    | exit i => exact hn _ st' ρ' lo' a' w' hk hr' hlp' hs
    | ret => exact hn _ st' ρ' lo' a' w' hk hr' hlp' hs
    | goto i => exact hn _ st' ρ' lo' a' w' hk hr' hlp' hs
  | .cond c x y, N, hL, R, st, K, r, ρ, lo, a, w, Q, he, hr, hlp, hn => by
    simp only [ev] at he
    split at he
    · rename_i t ht
      have hv := opnd_bool hr ht
      split at he
      · cases t
        · exact wp_cond_false hv (ev_sound hE y N hL.2 (by simpa using he) hr hlp hn)
        · exact wp_cond_true hv (ev_sound hE x N hL.1 (by simpa using he) hr hlp hn)
      · rename_i as _
        obtain ⟨s, hs, he⟩ := Option.bind_eq_some_iff.1 he
        have hn' : ∀ (x : X) (st' : St) (ρ' : Ren) (lo' : Nat → Option Nat) (a' : Act) (w' : World), encA as x st' = some s → RelA E.n ρ' lo' st' a' w' → LpOk E st' → Step ρ lo w ρ' lo' w' → Q x.exit' a' w' := by
          intro x st' ρ' lo' a' w' hk hr' hlp' hs'
          obtain ⟨al, hd⟩ := encA_law as x st' s hk
          rw [hd R K] at he
          obtain ⟨lo2, hr2, hs2⟩ := norm_sound hr' (some (al.ix, al.lx))
          exact hn x _ ρ' lo2 a' w' he hr2 (hlp'.norm _) (hs'.trans hs2)
        cases t
        · exact wp_cond_false hv (ev_sound hE y N hL.2 (by simpa using hs) hr hlp hn')
        · exact wp_cond_true hv (ev_sound hE x N hL.1 (by simpa using hs) hr hlp hn')
    · cases he
  | .block id c, N, hL, R, st, K, r, ρ, lo, a, w, Q, he, hr, hlp, hn => by
    simp only [ev] at he
    refine wp_block (ev_sound hE c N hL he hr hlp fun e st' ρ' lo' a' w' hk hr' hlp' hs => ?_)
    cases e with
    | normal => exact hn _ st' ρ' lo' a' w' hk hr' hlp' hs
    | ret => exact hn _ st' ρ' lo' a' w' hk hr' hlp' hs
    | goto i => exact hn _ st' ρ' lo' a' w' hk hr' hlp' hs
    | exit i =>
      simp only [X.exit', Exit.inBlock] at hk ⊢
      by_cases h : i = id
      · subst h
        rw [Nat.beq_refl] at hk
        simp only [if_true]
        exact hn .normal st' ρ' lo' a' w' hk hr' hlp' hs
      · have : Nat.beq i id = false := by
          cases hb : Nat.beq i id with
          | false => rfl
          | true => exact absurd (Nat.eq_of_beq_eq_true hb) h
        rw [this] at hk
        rw [if_neg h]
        exact hn (.exit i) st' ρ' lo' a' w' hk hr' hlp' hs
  | .loop c, N, hL, R, st, K, r, ρ, lo, a, w, Q, he, hr, hlp, hn => by
    simp only [ev] at he
    split at he
    case h_2 => cases he
    rename_i A hA
    have hok := hL.2 A hA
    obtain ⟨s, hs, he⟩ := Option.bind_eq_some_iff.1 he
    obtain ⟨o, ho, he⟩ := Option.bind_eq_some_iff.1 he
    have key : ∀ (n : Nat) {s : A.head.T} {ρ' : Ren} {lo' : Nat → Option Nat} {a' : Act} {w' : World}, A.L n s = some o → RelA E.n ρ' lo' (A.head.dec s) a' w' → LpOk E (A.head.dec s) → Step ρ lo w ρ' lo' w' →
        Code.rounds E.P c Q n a' w' := by
      intro n
      induction n with
      | zero => intro s ρ' lo' a' w' he _ _ _; rw [hok.zero] at he; cases he
      | succ n ih =>
        intro s ρ' lo' a' w' he' hr hlp hs
        rw [rounds_succ]
        rw [hok.succ] at he'
        refine ev_sound hE c N hL.1 he' hr hlp fun e st' ρ'' lo'' a'' w'' hk hr' hlp' hs' => ?_
        have out : encA A.outs e st' = some o → Q e.exit' a'' w'' := by
          intro hk
          obtain ⟨al, hd⟩ := encA_law A.outs e st' o hk
          rw [hd R K] at he
          obtain ⟨lo3, hr3, hs3⟩ := norm_sound hr' (some (al.ix, al.lx))
          exact hn e _ ρ'' lo3 a'' w'' he hr3 (hlp'.norm _) ((hs.trans hs').trans hs3)
        cases e with
        | normal =>
          obtain ⟨s', hs1, hs2⟩ := Option.bind_eq_some_iff.1 hk
          obtain ⟨lo3, hr3, hs3⟩ := norm_sound hr' (some (A.head.ix, A.head.lx))
          have hd := alt_law A.head st' s' hs1
          exact ih hs2 (by rw [hd]; exact hr3) (by rw [hd]; exact hlp'.norm _) ((hs.trans hs').trans hs3)
        | exit i => exact out hk
        | ret => exact out hk
        | goto i => exact out hk
    obtain ⟨lo1, hr1, hs1⟩ := norm_sound hr (some (A.head.ix, A.head.lx))
    have hd := alt_law A.head st s hs
    exact wp_loop_rounds N (key N ho (by rw [hd]; exact hr1) (by rw [hd]; exact hlp.norm _) hs1)
  | .exit id, N, hL, R, st, K, r, ρ, lo, a, w, Q, he, hr, hlp, hn => wp_exit (hn (.exit id) st ρ lo a w he hr hlp (.refl _ _ _))
  | .ret, N, hL, R, st, K, r, ρ, lo, a, w, Q, he, hr, hlp, hn => wp_ret (hn .ret st ρ lo a w he hr hlp (.refl _ _ _))
  | .goto l, N, hL, R, st, K, r, ρ, lo, a, w, Q, he, hr, hlp, hn => wp_goto (hn (.goto l) st ρ lo a w he hr hlp (.refl _ _ _))
  | .label _, N, hL, R, st, K, r, ρ, lo, a, w, Q, he, hr, hlp, hn => wp_label (hn .normal st ρ lo a w he hr hlp (.refl _ _ _))
  | .scope c, N, hL, R, st, K, r, ρ, lo, a, w, Q, he, hr, hlp, hn => by
    simp only [ev] at he
    have H : ∀ (d : Nat) {x : X} {st' : St} {ρ' : Ren} {lo' : Nat → Option Nat} {a' : Act} {w' : World}, hnd E N c K d x st' = some r → RelA E.n ρ' lo' st' a' w' → LpOk E st' → Step ρ lo w ρ' lo' w' → jumps E.P c Q x.exit' a' w' := by
      intro d
      induction d with
      | zero =>
        intro x st' ρ' lo' a' w' hk hr' hlp' hs
        cases x with
        | goto l => cases hk
        | normal => exact hn .normal st' ρ' lo' a' w' hk hr' hlp' hs
        | exit i => exact hn (.exit i) st' ρ' lo' a' w' hk hr' hlp' hs
        | ret => exact hn .ret st' ρ' lo' a' w' hk hr' hlp' hs
      | succ d ih =>
        intro x st' ρ' lo' a' w' hk hr' hlp' hs
        cases x with
        | normal => exact hn .normal st' ρ' lo' a' w' hk hr' hlp' hs
        | exit i => exact hn (.exit i) st' ρ' lo' a' w' hk hr' hlp' hs
        | ret => exact hn .ret st' ρ' lo' a' w' hk hr' hlp' hs
        | goto l =>
          simp only [hnd] at hk
          split at hk
          case h_2 => cases hk
          rename_i rest hf
          split at hk
          case h_2 => cases hk
          rename_i A hA
          have hok := hL.2 l rest A hf hA
          have hsz := findLabel_size hf
          obtain ⟨s, hs0, hk⟩ := Option.bind_eq_some_iff.1 hk
          obtain ⟨o, ho, hk⟩ := Option.bind_eq_some_iff.1 hk
          have key : ∀ (n : Nat) {s : A.head.T} {ρ' : Ren} {lo' : Nat → Option Nat} {a' : Act} {w' : World}, A.L n s = some o → RelA E.n ρ' lo' (A.head.dec s) a' w' → LpOk E (A.head.dec s) → Step ρ lo w ρ' lo' w' →
              Lands E.P c Q l a' w' := by
            intro n
            induction n with
            | zero => intro s ρ' lo' a' w' he _ _ _; rw [hok.zero] at he; cases he
            | succ n ihn =>
              intro s ρ' lo' a' w' he' hr hlp hs
              rw [hok.succ] at he'
              refine lands_of hf (ev_sound hE rest N (hL.1.lab hf) he' hr hlp fun e st' ρ'' lo'' a'' w'' hk2 hr' hlp' hs' => ?_)
              have out : encA A.outs e st' = some o → jumps E.P c Q e.exit' a'' w'' := by
                intro hk2
                obtain ⟨al, hd⟩ := encA_law A.outs e st' o hk2
                rw [hd R (hnd E N c K d)] at hk
                obtain ⟨lo3, hr3, hs3⟩ := norm_sound hr' (some (al.ix, al.lx))
                exact ih hk hr3 (hlp'.norm _) ((hs.trans hs').trans hs3)
              cases e with
              | normal => exact out hk2
              | exit i => exact out hk2
              | ret => exact out hk2
              | goto i =>
                simp only [LoopA.back] at hk2
                split at hk2
                · rename_i hb
                  have := Nat.eq_of_beq_eq_true hb
                  subst this
                  obtain ⟨s', hs1, hs2⟩ := Option.bind_eq_some_iff.1 hk2
                  obtain ⟨lo3, hr3, hs3⟩ := norm_sound hr' (some (A.head.ix, A.head.lx))
                  have hd := alt_law A.head st' s' hs1
                  exact ihn hs2 (by rw [hd]; exact hr3) (by rw [hd]; exact hlp'.norm _) ((hs.trans hs').trans hs3)
                · exact out hk2
          obtain ⟨lo1, hr1, hs1⟩ := norm_sound hr' (some (A.head.ix, A.head.lx))
          have hd := alt_law A.head st' s hs0
          exact key N ho (by rw [hd]; exact hr1) (by rw [hd]; exact hlp'.norm _) (hs.trans hs1)
    exact wp_scope_of (ev_sound hE c N hL.1 he hr hlp fun x st' ρ' lo' a' w' hk hr' hlp' hs => H 2 hk hr' hlp' hs)
/-- Operations that leave memory as it is. -/
def quietO (E : Env) (o : Oper) : Bool :=
  match skey E o with
  | some (none, true) => false
  | _ => true

def quietC (E : Env) : Code → Bool
  | .region _ ops _ => ops.toList.all (quietO E)
  | .seq a b => quietC E a && quietC E b
  | .cond _ a b => quietC E a && quietC E b
  | .block _ c => quietC E c
  | .loop c => quietC E c
  | .scope _ => false
  | _ => true

theorem flat_quiet {E : Env} {ops : Array Oper} : ∀ (l : List Oper) {st st' : St}, flat E ops l st = some st' → LpOk E st → l.all (quietO E) = true → st'.h = st.h
  | [], st, st', h, _, _ => by cases h; rfl
  | o :: l, st, st', h, hlp, hq => by
    simp only [flat] at h
    simp only [List.all_cons, Bool.and_eq_true] at hq
    obtain ⟨st1, h1, h2⟩ := Option.bind_eq_some_iff.1 h
    obtain ⟨x, lx, hx, rfl, hs⟩ := stp_shape hlp h1
    obtain ⟨x2, l2, h2', _, hm, _⟩ := hs st ((St.le_refl st).alikeG o)
    rw [flat_quiet l h2 (hlp.out _ _ _) hq.2, out_h]
    rcases hm.h1 with e | ⟨e, _⟩
    · have := hq.1
      simp [quietO, e] at this
    · exact e

theorem fill_key {E : Env} {o : Oper} {d : Nat} (hd : fillOf E o = some d) : quietO E o = false := by
  unfold fillOf at hd
  split at hd
  case h_2 => cases hd
  rename_i t x y ho
  split at hd
  case h_2 => cases hd
  rename_i hfz _
  simp [quietO, skey, ho, hfz]

theorem keepSt_quiet {E : Env} {ops : Array Oper} (hq : ops.toList.all (quietO E) = true) (st : St) : keepSt E ops st = st := by
  have : keeps E ops = 0 := by
    unfold keeps
    rw [List.filter_eq_nil_iff.2]
    · rfl
    · intro o ho hs
      rw [List.all_eq_true] at hq
      have h1 := hq o ho
      cases hd : fillOf E o with
      | none => rw [hd] at hs; cases hs
      | some d => rw [fill_key hd] at h1; cases h1
  unfold keepSt
  rw [this]

theorem ev_quiet {E : Env} : ∀ (c : Code) (N : Nat), LGood E N c → quietC E c = true → ∀ {R : Type} {st : St} {K : X → St → Option R} {r : R}, ev E N c st K = some r → LpOk E st →
    ∃ x st', K x st' = some r ∧ st'.h = st.h ∧ LpOk E st'
  | .skip, N, hL, hq, R, st, K, r, he, hlp => ⟨.normal, st, he, rfl, hlp⟩
  | .region id ops draw, N, hL, hq, R, st, K, r, he, hlp => by
    simp only [ev] at he
    split at he
    case h_2 => cases he
    rename_i l ds hc
    rw [keepSt_quiet (by simpa [quietC] using hq)] at he
    replace he : (evOps E ops (ops.size + ops.size) [] l st fun st => sepK st.s ds (K .normal st)) = some r := by
      exact he
    obtain ⟨st', sf, k1, k2, k3, k4⟩ := evOps_flat _ _ _ he hlp
    rw [sepK_eq] at k2
    obtain ⟨_, _, k2⟩ := Option.bind_eq_some_iff.1 k2
    exact ⟨.normal, st', k2, by rw [← k3.h]; exact flat_quiet _ k1 hlp (List.all_eq_true.2 fun o ho => List.all_eq_true.1 hq o (planR_mem hc ho)), k4⟩
  | .seq a b, N, hL, hq, R, st, K, r, he, hlp => by
    simp only [quietC, Bool.and_eq_true] at hq
    simp only [ev] at he
    obtain ⟨x, st', h1, h2, h3⟩ := ev_quiet a N hL.1 hq.1 he hlp
    cases x with
    | normal =>
      obtain ⟨y, st'', g1, g2, g3⟩ := ev_quiet b N hL.2 hq.2 h1 h3
      exact ⟨y, st'', g1, g2.trans h2, g3⟩
    | exit i => exact ⟨_, st', h1, h2, h3⟩
    | ret => exact ⟨_, st', h1, h2, h3⟩
    | goto i => exact ⟨_, st', h1, h2, h3⟩
  | .cond c a b, N, hL, hq, R, st, K, r, he, hlp => by
    simp only [quietC, Bool.and_eq_true] at hq
    simp only [ev] at he
    split at he
    · rename_i t ht
      split at he
      · cases t
        · exact ev_quiet b N hL.2 hq.2 (by simpa using he) hlp
        · exact ev_quiet a N hL.1 hq.1 (by simpa using he) hlp
      · rename_i as _
        obtain ⟨s, hs, he⟩ := Option.bind_eq_some_iff.1 he
        have go : (∃ x st', encA as x st' = some s ∧ st'.h = st.h ∧ LpOk E st') → ∃ x st', K x st' = some r ∧ st'.h = st.h ∧ LpOk E st' := by
          rintro ⟨x, st', h1, h2, h3⟩
          obtain ⟨al, hd⟩ := encA_law as x st' s h1
          rw [hd R K] at he
          exact ⟨x, _, he, h2, h3.norm _⟩
        cases t
        · exact go (ev_quiet b N hL.2 hq.2 (by simpa using hs) hlp)
        · exact go (ev_quiet a N hL.1 hq.1 (by simpa using hs) hlp)
    · cases he
  | .block id c, N, hL, hq, R, st, K, r, he, hlp => by
    simp only [ev] at he
    obtain ⟨x, st', h1, h2, h3⟩ := ev_quiet c N hL hq he hlp
    cases x with
    | normal => exact ⟨_, st', h1, h2, h3⟩
    | ret => exact ⟨_, st', h1, h2, h3⟩
    | goto i => exact ⟨_, st', h1, h2, h3⟩
    | exit i =>
      simp only at h1
      split at h1
      · exact ⟨_, st', h1, h2, h3⟩
      · exact ⟨_, st', h1, h2, h3⟩
  | .loop c, N, hL, hq, R, st, K, r, he, hlp => by
    simp only [ev] at he
    split at he
    case h_2 => cases he
    rename_i A hA
    have hok := hL.2 A hA
    obtain ⟨s, hs, he⟩ := Option.bind_eq_some_iff.1 he
    obtain ⟨o, ho, he⟩ := Option.bind_eq_some_iff.1 he
    have key : ∀ (n : Nat) {s : A.head.T}, A.L n s = some o → LpOk E (A.head.dec s) → (A.head.dec s).h = st.h → ∃ x st', K x st' = some r ∧ st'.h = st.h ∧ LpOk E st' := by
      intro n
      induction n with
      | zero => intro s he _ _; rw [hok.zero] at he; cases he
      | succ n ih =>
        intro s he' hlp hh
        rw [hok.succ] at he'
        obtain ⟨x, st', h1, h2, h3⟩ := ev_quiet c N hL.1 hq he' hlp
        have out : encA A.outs x st' = some o → ∃ x st', K x st' = some r ∧ st'.h = st.h ∧ LpOk E st' := by
          intro hk
          obtain ⟨al, hd⟩ := encA_law A.outs x st' o hk
          rw [hd R K] at he
          exact ⟨x, _, he, h2.trans hh, h3.norm _⟩
        cases x with
        | normal =>
          obtain ⟨s', hs1, hs2⟩ := Option.bind_eq_some_iff.1 h1
          have hd := alt_law A.head st' s' hs1
          exact ih hs2 (by rw [hd]; exact h3.norm _) (by rw [hd]; exact h2.trans hh)
        | exit i => exact out h1
        | ret => exact out h1
        | goto i => exact out h1
    have hd := alt_law A.head st s hs
    exact key N ho (by rw [hd]; exact hlp.norm _) (by rw [hd]; rfl)
  | .exit id, N, hL, hq, R, st, K, r, he, hlp => ⟨.exit id, st, he, rfl, hlp⟩
  | .ret, N, hL, hq, R, st, K, r, he, hlp => ⟨.ret, st, he, rfl, hlp⟩
  | .goto l, N, hL, hq, R, st, K, r, he, hlp => ⟨.goto l, st, he, rfl, hlp⟩
  | .label _, N, hL, hq, R, st, K, r, he, hlp => ⟨.normal, st, he, rfl, hlp⟩
  | .scope .., N, hL, hq, R, st, K, r, he, hlp => by simp [quietC] at hq
  | .rangeFunc .., N, hL, hq, R, st, K, r, he, hlp => by simp [ev] at he
  | .refuse _, N, hL, hq, R, st, K, r, he, hlp => by simp [ev] at he

theorem resVs_thru (E : Env) (st : St) : ∀ (rs : List ResultVar), Thru (fun R K => resVs (R := R) E st rs K)
  | [] => Thru.k _
  | .tmp t :: r => fun R K x h => by
    simp only [resVs] at h
    split at h
    · rename_i v hv
      obtain ⟨vs, h1, h2⟩ := resVs_thru E st r _ _ _ h
      exact ⟨v :: vs, h1, fun R2 K2 => by simp only [resVs, hv]; exact h2 R2 _⟩
    · rename_i v hv
      obtain ⟨vs, h1, h2⟩ := resVs_thru E st r _ _ _ h
      exact ⟨v :: vs, h1, fun R2 K2 => by simp only [resVs, hv]; exact h2 R2 _⟩
    · cases h
  | .cell a t :: r => fun R K x h => by
    simp only [resVs] at h
    split at h
    · rename_i l hl
      obtain ⟨v, h1, h2⟩ := dest_thru l _ _ _ _ h
      obtain ⟨vs, h3, h4⟩ := resVs_thru E st r _ _ _ h1
      exact ⟨v :: vs, h3, fun R2 K2 => by simp only [resVs, hl]; exact (h2 R2 _).trans (h4 R2 _)⟩
    · rename_i ls hl
      obtain ⟨cs, h1, h2⟩ := rdLs_thru ls _ 0 _ _ _ h
      obtain ⟨vs, h3, h4⟩ := resVs_thru E st r _ _ _ h1
      exact ⟨.agg cs :: vs, h3, fun R2 K2 => by simp only [resVs, hl]; exact (h2 R2 _).trans (h4 R2 _)⟩
    · rename_i n hl
      obtain ⟨cs, h0, h1⟩ := Option.bind_eq_some_iff.1 h
      obtain ⟨vs, h3, h4⟩ := resVs_thru E st r _ _ _ h1
      exact ⟨.agg cs :: vs, h3, fun R2 K2 => by simp only [resVs, hl, h0, Option.bind_some]; exact h4 R2 _⟩
    · cases h

theorem evFT_triple {E : Env} (hE : Good E) {N : Nat} {f : FuncId} {fn : Func} (hf : E.P.funcs[f]? = some fn) (hn : fn.ntmps = E.n) (hL : ∀ c, fn.body = some c → LGood E N c) {ks rs : List SK} {t : Tup ks H} (hl : (decVs ks t).1.length ≤ E.n) (ha : ∀ i, i < (decVs ks t).1.length → E.lpT i = none) {s : Tup rs H}
    (he : evFT E N fn ks rs t = some s) : Triple E.P f (decVs ks t).1 (decVs ks t).2 (outR rs s).1 (outR rs s).2 := by
  generalize hargs0 : (decVs ks t).1 = args at *
  generalize hh0 : (decVs ks t).2 = h at *
  intro ρ w xs hrel hsz hargs
  unfold evFT at he
  rw [hargs0, hh0] at he
  split at he
  case h_2 => cases he
  rename_i c hb
  refine calls_of_wp hf hb ?_
  have hr : RelA E.n ρ nol ⟨argSlots 0 args, [], h⟩ { tmps := xs ++ Array.replicate (fn.ntmps - xs.size) undef, defers := [] } w := by
    refine ⟨hrel, fun i => ?_, (fun t cs ht => by cases ht), (fun t b ht => by cases ht), (fun t b ht => by cases ht), (fun t t' b ht => by cases ht), by simp; omega, rfl⟩
    show RelS ρ nol (lk (argSlots 0 args) i) _
    rw [lk_argSlots]
    simp only [Nat.zero_le, if_true, Nat.sub_zero]
    split
    · rename_i u hu
      have hi : i < args.length := by
        rcases Nat.lt_or_ge i args.length with h | h
        · exact h
        · rw [List.getElem?_eq_none h] at hu; cases hu
      have hi' : i < xs.size := by omega
      have : (xs ++ Array.replicate (fn.ntmps - xs.size) undef).getD i undef = xs[i] := by
        rw [Array.getD_eq_getD_getElem?, Array.getElem?_append_left hi', Array.getElem?_eq_getElem hi']; rfl
      rw [this]
      exact hargs i u _ hu (Array.getElem?_eq_getElem hi')
    · trivial
  have hlp : LpOk E ⟨argSlots 0 args, [], h⟩ := fun i => by
    show lpOk E i (lk (argSlots 0 args) i) = true
    rw [lk_argSlots]
    simp only [Nat.zero_le, if_true, Nat.sub_zero]
    split
    · rename_i u hu
      have hi : i < args.length := by
        rcases Nat.lt_or_ge i args.length with h | h
        · exact h
        · rw [List.getElem?_eq_none h] at hu; cases hu
      simp only [lpOk, ha i hi]
    · rfl
  refine ev_sound hE c N (hL c hb) he hr hlp fun x st' ρ' lo' a' w' hk hr' _ hs => ?_
  have fine : (resVs E st' fn.results.toList fun vs => encVs rs vs (some st'.h)) = some s → a'.defers = [] ∧ ∃ y, (results fn a'.tmps).run E.P w' = .ok y w' ∧ ∃ ρ' x, Ending.returned y = .returned x ∧ RelH ρ' (outR rs s).2 w' ∧ Step ρ nol w ρ' nol w' ∧ RelV ρ' (outR rs s).1 x := by
    intro hk
    obtain ⟨vs, hk1, hk2⟩ := resVs_thru E st' _ _ _ _ hk
    obtain ⟨y0, hy0, hd0⟩ := encVs_law rs vs _ s hk1
    cases hy0
    replace hk : resV E fn st' = some ((outR rs s).1, (outR rs s).2) := by
      unfold resV outR
      refine (hk2 _ _).trans ?_
      rw [hd0]
      cases vs with
      | nil => rfl
      | cons v vs => cases vs <;> rfl
    obtain ⟨y, h1, h2, h3⟩ := resV_run hr' hk
    exact ⟨hr'.defs, y, h1, ρ', y, rfl, by rw [h3]; exact hr'.h, ⟨hs.le, hs.still, hs.size, fun b hb k1 k2 => by
      obtain ⟨m1, m2, _, m4⟩ := hs.keep b hb k1 k2
      exact ⟨m1, m2, fun _ => by simp [nol], m4⟩⟩, h2⟩
  cases x with
  | normal => exact fine hk
  | ret => exact fine hk
  | exit i => cases hk
  | goto i => cases hk

end
end Go.L
