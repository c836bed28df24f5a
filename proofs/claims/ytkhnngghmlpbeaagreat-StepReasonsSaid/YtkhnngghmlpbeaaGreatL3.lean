/- How our values and memory stand to the machine's. -/
import Derived.Test.YtkhnngghmlpbeaaGreatL2
import Derived.Orders
import Derived.Tactics
namespace Go.L
noncomputable section

structure Img where
  blk : Nat
  base : Nat
  size : Nat

structure Ren where
  n : Nat
  vers : Nat → Nat
  wr : Nat → Option Img
  ro : Nat → Option Obj

inductive RelV (ρ : Ren) : V → Value → Prop where
  | bool (b : Bool) : RelV ρ (.bool b) (.bool b)
  | int (k : IntKind) (n : Int) : RelV ρ (.int k n) (.int k n)
  | float (k : FloatKind) (b : Nat) : RelV ρ (.float k b) (.float k b)
  | cplx (k : FloatKind) (a b : Nat) : RelV ρ (.cplx k a b) (.complex k a b)
  | str (s : ByteArray) : RelV ρ (.str s) (.string s)
  | nilp : RelV ρ .nilp (.pointer none)
  | ptr (id ver off : Nat) (a : Addr) (h1 : id < ρ.n) (h2 : ver ≤ ρ.vers id)
      (h3 : ∀ g, ver = ρ.vers id → ρ.wr id = some g → a = ⟨g.blk, g.base + off, none⟩) : RelV ρ (.ptr id ver off) (.pointer (some a))
  | rptr (cs : List V) (b off : Nat) (c : Array Value) (e : TypeId) (fr : Nat × Nat) (h1 : ρ.ro b = some (.cells c e fr)) (h2 : ∀ i, i < cs.length → off + i < c.size)
      (h3 : ∀ (i : Nat) (v : V) (x : Value), cs[i]? = some v → c[off + i]? = some x → RelV ρ v x)
      (h4 : ∀ (i : Nat) (x : Value), i < cs.length → c[off + i]? = some x → x.oneCell' = true) : RelV ρ (.rptr cs) (.pointer (some ⟨b, off, none⟩))
  | nils : RelV ρ .nils (.slice none 0 0)
  | sl (id ver off len es : Nat) (cap : Option Nat) (a : Addr) (rc : Nat) (h1 : id < ρ.n) (h2 : ver ≤ ρ.vers id) (h3 : len ≤ rc) (h4 : ∀ c, cap = some c → rc = c)
      (h5 : ∀ g, ver = ρ.vers id → ρ.wr id = some g → 0 < rc → a = ⟨g.blk, g.base + off, none⟩ ∧ off + rc * es ≤ g.size) :
      RelV ρ (.sl id ver off len es cap) (.slice (some a) len rc)
  | rs0 (es : Nat) (a : Option Addr) (rc : Nat) (h : a = none → rc = 0) : RelV ρ (.rs es []) (.slice a 0 rc)
  | rs (es : Nat) (xs : List V) (b off : Nat) (c : Array Value) (e : TypeId) (fr : Nat × Nat) (rc : Nat) (h0 : xs.length ≤ rc) (h1 : ρ.ro b = some (.cells c e fr))
      (h2 : off + xs.length * es ≤ c.size) (h3 : ∀ v ∈ xs, v.cells.length = es)
      (h4 : ∀ (i : Nat) (v : V) (j : Nat) (y : V) (x : Value), xs[i]? = some v → v.cells[j]? = some y → c[off + i * es + j]? = some x → RelV ρ y x)
      (h5 : ∀ (i : Nat) (x : Value), i < xs.length * es → c[off + i]? = some x → x.oneCell' = true) :
      RelV ρ (.rs es xs) (.slice (some ⟨b, off, none⟩) xs.length rc)
  | nilm : RelV ρ .nilm (.map none)
  | map (id r : Nat) (h1 : id < ρ.n) (h2 : ∀ g, ρ.vers id = 0 → ρ.wr id = some g → r = g.blk) : RelV ρ (.map id) (.map (some r))
  | nilf : RelV ρ .nilf .nilFunc
  | fn (f : FuncId) (cs : List V) (xs : Array Value) (h1 : xs.size = cs.length) (h2 : ∀ (i : Nat) (v : V) (x : Value), cs[i]? = some v → xs[i]? = some x → RelV ρ v x) :
      RelV ρ (.fn f cs) (.func (.func f) #[] xs)
  | agg (cs : List V) (xs : Array Value) (h1 : xs.size = cs.length) (h2 : ∀ (i : Nat) (v : V) (x : Value), cs[i]? = some v → xs[i]? = some x → RelV ρ v x)
      (h3 : ∀ (i : Nat) (x : Value), xs[i]? = some x → x.oneCell' = true) : RelV ρ (.agg cs) (.agg xs)
  | tup (cs : List V) (xs : Array Value) (h1 : xs.size = cs.length) (h2 : ∀ (i : Nat) (v : V) (x : Value), cs[i]? = some v → xs[i]? = some x → RelV ρ v x) :
      RelV ρ (.tup cs) (.tuple xs)

structure Le (ρ ρ' : Ren) : Prop where
  n : ρ.n ≤ ρ'.n
  vers : ∀ id, id < ρ.n → ρ.vers id ≤ ρ'.vers id
  wr : ∀ id, id < ρ.n → ρ'.vers id = ρ.vers id → ∀ g, ρ'.wr id = some g → ρ.wr id = some g
  ro : ∀ b o, ρ.ro b = some o → ρ'.ro b = some o

theorem Le.refl (ρ : Ren) : Le ρ ρ := ⟨Nat.le_refl _, fun _ _ => Nat.le_refl _, fun _ _ _ _ h => h, fun _ _ h => h⟩

theorem Le.trans {a b c : Ren} (h : Le a b) (h' : Le b c) : Le a c where
  n := Nat.le_trans h.n h'.n
  vers id hi := Nat.le_trans (h.vers id hi) (h'.vers id (Nat.lt_of_lt_of_le hi h.n))
  wr id hi hv g hg := by
    have h1 := h.vers id hi
    have h2 := h'.vers id (Nat.lt_of_lt_of_le hi h.n)
    exact h.wr id hi (by omega) g (h'.wr id (Nat.lt_of_lt_of_le hi h.n) (by omega) g hg)
  ro b o hb := h'.ro b o (h.ro b o hb)

theorem RelV.mono {ρ ρ' : Ren} (hle : Le ρ ρ') {v : V} {x : Value} (h : RelV ρ v x) : RelV ρ' v x := by
  induction h with
  | bool b => exact .bool b
  | int k n => exact .int k n
  | float k b => exact .float k b
  | cplx k a b => exact .cplx k a b
  | str s => exact .str s
  | nilp => exact .nilp
  | ptr id ver off a h1 h2 h3 =>
    have hv := hle.vers id h1
    exact .ptr id ver off a (Nat.lt_of_lt_of_le h1 hle.n) (Nat.le_trans h2 hv)
      (fun g hg hw => h3 g (by omega) (hle.wr id h1 (by omega) g hw))
  | rptr cs b off c e fr h1 h2 h3 h4 ih => exact .rptr cs b off c e fr (hle.ro _ _ h1) h2 ih h4
  | nils => exact .nils
  | sl id ver off len es cap a rc h1 h2 h3 h4 h5 =>
    have hv := hle.vers id h1
    exact .sl id ver off len es cap a rc (Nat.lt_of_lt_of_le h1 hle.n) (Nat.le_trans h2 hv) h3 h4
      (fun g hg hw hp => h5 g (by omega) (hle.wr id h1 (by omega) g hw) hp)
  | rs0 es a rc h => exact .rs0 es a rc h
  | rs es xs b off c e fr rc h0 h1 h2 h3 h4 h5 ih => exact .rs es xs b off c e fr rc h0 (hle.ro _ _ h1) h2 h3 ih h5
  | nilm => exact .nilm
  | map id r h1 h2 =>
    have hv := hle.vers id h1
    exact .map id r (Nat.lt_of_lt_of_le h1 hle.n) (fun g h0 hg => h2 g (by omega) (hle.wr id h1 (by omega) g hg))
  | nilf => exact .nilf
  | fn f cs xs h1 h2 ih => exact .fn f cs xs h1 ih
  | agg cs xs h1 h2 h3 ih => exact .agg cs xs h1 ih h3
  | tup cs xs h1 h2 ih => exact .tup cs xs h1 ih

def O.live : O → Bool
  | .dead => false
  | .rsv => false
  | _ => true

def RelO (ρ : Ren) (g : Img) (o : O) (b : Obj) : Prop :=
  match o, b with
  | .cells _ cs, .cells c _ fr => c.size = g.base + g.size ∧ cs.length ≤ g.size ∧ fr.2 = 0 ∧
      ∀ (i : Nat) (x : V) (y : Value), cs[i]? = some x → c[g.base + i]? = some y → RelV ρ x y ∧ y.oneCell' = true
  | .map es, .map ms _ => ms.size = es.length ∧
      ∀ (i : Nat) (e : V × V) (m : MapEntry), es[i]? = some e → ms[i]? = some m → RelV ρ e.1 m.key ∧ RelV ρ e.2 m.val
  | _, _ => False

def O.ver : O → Nat
  | .cells v _ => v
  | _ => 0

structure RelH (ρ : Ren) (h : H) (w : World) : Prop where
  n : ρ.n = h.length
  live : ∀ id o, h[id]? = some o → o.live = true → ∃ g, ρ.wr id = some g
  obj : ∀ id g, ρ.wr id = some g → ∃ o ob, h[id]? = some o ∧ w.heap[g.blk]? = some ob ∧ RelO ρ g o ob ∧ ρ.vers id = o.ver
  inj : ∀ i j g g', ρ.wr i = some g → ρ.wr j = some g' → g.blk = g'.blk → i = j
  ro : ∀ b ob, ρ.ro b = some ob → w.heap[b]? = some ob
  sep : ∀ i g, ρ.wr i = some g → ρ.ro g.blk = none
  rsv : ∀ id, h[id]? = some .rsv → ρ.wr id = none ∧ ρ.vers id = 0

/-- No range of an object is frozen. -/
def unfr (o : Option Obj) : Prop :=
  match o with
  | some (.cells _ _ fr) => fr.2 = 0
  | _ => True

/-- What no step changes: the os, what was printed, what is frozen. -/
structure Still (w w' : World) : Prop where
  os : w'.os = w.os
  output : w'.output = w.output
  frozen : ∀ a, w'.frozen? a = w.frozen? a

theorem Still.refl (w : World) : Still w w := ⟨rfl, rfl, fun _ => rfl⟩
theorem Still.trans {w w' w'' : World} (h : Still w w') (h' : Still w' w'') : Still w w'' := ⟨h'.os.trans h.os, h'.output.trans h.output, fun a => (h'.frozen a).trans (h.frozen a)⟩

theorem unfr_frozen {w : World} {a : Addr} (h : unfr (w.heap[a.block]?)) : w.frozen? a = false := by
  unfold World.frozen?
  unfold unfr at h
  split
  · rename_i c t lo hi hb
    rw [hb] at h
    simp only at h
    subst h
    simp
  · rfl

theorem still_of {w w' : World} (ho : w'.os = w.os) (hp : w'.output = w.output) (h : ∀ b : Nat, w'.heap[b]? = w.heap[b]? ∨ (unfr (w'.heap[b]?) ∧ unfr (w.heap[b]?))) : Still w w' :=
  ⟨ho, hp, fun a => by
    rcases h a.block with h | ⟨h, h'⟩
    · unfold World.frozen?; rw [h]
    · rw [unfr_frozen h, unfr_frozen h']⟩

/-- A new object, and nothing else of note. -/
structure Pushes (w w' : World) (ob : Obj) : Prop where
  heap : w'.heap = w.heap.push ob
  os : w'.os = w.os
  output : w'.output = w.output

theorem Pushes.still {w w' : World} {ob : Obj} (h : Pushes w w' ob) (hu : unfr (some ob)) : Still w w' :=
  still_of h.os h.output fun b => by
    rw [h.heap, Array.getElem?_push]
    by_cases e : b = w.heap.size
    · right; rw [if_pos e]; refine ⟨hu, ?_⟩; rw [e]; simp [unfr]
    · left; rw [if_neg e]

theorem RelO.unfr {ρ : Ren} {g : Img} {o : O} {ob : Obj} (h : RelO ρ g o ob) : unfr (some ob) := by
  unfold RelO at h
  split at h
  · exact h.2.2.1
  · trivial
  · exact h.elim

/-- What a step keeps: blocks that are none of ours stay, and become none of ours. -/
structure Step (ρ : Ren) (lo : Nat → Option Nat) (w : World) (ρ' : Ren) (lo' : Nat → Option Nat) (w' : World) : Prop where
  le : Le ρ ρ'
  still : Still w w'
  size : w.heap.size ≤ w'.heap.size
  keep : ∀ b, b < w.heap.size → (∀ i g, ρ.wr i = some g → g.blk ≠ b) → (∀ t, lo t ≠ some b) →
    w'.heap[b]? = w.heap[b]? ∧ (∀ i g, ρ'.wr i = some g → g.blk ≠ b) ∧ (∀ t, lo' t ≠ some b) ∧ ρ'.ro b = ρ.ro b

theorem Step.refl (ρ : Ren) (lo : Nat → Option Nat) (w : World) : Step ρ lo w ρ lo w :=
  ⟨.refl ρ, .refl w, Nat.le_refl _, fun _ _ h h' => ⟨rfl, h, h', rfl⟩⟩

theorem Step.trans {ρ ρ' ρ'' : Ren} {lo lo' lo'' : Nat → Option Nat} {w w' w'' : World} (h : Step ρ lo w ρ' lo' w') (h' : Step ρ' lo' w' ρ'' lo'' w'') :
    Step ρ lo w ρ'' lo'' w'' where
  le := h.le.trans h'.le
  still := h.still.trans h'.still
  size := Nat.le_trans h.size h'.size
  keep b hb h1 h2 := by
    obtain ⟨e1, k1, k2, k3⟩ := h.keep b hb h1 h2
    obtain ⟨e1', k1', k2', k3'⟩ := h'.keep b (Nat.lt_of_lt_of_le hb h.size) k1 k2
    exact ⟨e1'.trans e1, k1', k2', k3'.trans k3⟩

def RelS (ρ : Ren) (lo : Nat → Option Nat) (x : S) (v : Value) : Prop :=
  match x with
  | .v x => RelV ρ x v
  | .p x => RelV ρ x v ∧ ∃ a, v = .pointer (some a)
  | .lp t off => ∃ b, lo t = some b ∧ v = .pointer (some ⟨b, off, none⟩)
  | .bad => True
  | .un => v = undef

/-- A variable of the call's own, and its block. -/
def RelC (ρ : Ren) (cs : List V) (ob : Obj) : Prop :=
  match ob with
  | .cells c _ fr => c.size = cs.length ∧ fr.2 = 0 ∧ ∀ (i : Nat) (x : V) (y : Value), cs[i]? = some x → c[i]? = some y → RelV ρ x y ∧ y.oneCell' = true
  | _ => False

structure RelA (n : Nat) (ρ : Ren) (lo : Nat → Option Nat) (st : St) (a : Act) (w : World) : Prop where
  h : RelH ρ st.h w
  s : ∀ i, RelS ρ lo (lk st.s i) (a.tmps.getD i undef)
  l : ∀ t cs, lkl st.l t = some cs → ∃ b ob, lo t = some b ∧ w.heap[b]? = some ob ∧ RelC ρ cs ob
  ldom : ∀ t b, lo t = some b → ∃ cs, lkl st.l t = some cs
  lout : ∀ t b, lo t = some b → (∀ i g, ρ.wr i = some g → g.blk ≠ b) ∧ ρ.ro b = none ∧ b < w.heap.size
  linj : ∀ t t' b, lo t = some b → lo t' = some b → t = t'
  size : a.tmps.size = n
  defs : a.defers = []

theorem RelS.mono {ρ ρ' : Ren} {lo : Nat → Option Nat} (hle : Le ρ ρ') {x : S} {v : Value} (h : RelS ρ lo x v) : RelS ρ' lo x v := by
  cases x with
  | v x => exact RelV.mono hle h
  | p x => exact ⟨RelV.mono hle h.1, h.2⟩
  | lp t off => exact h
  | bad => trivial
  | un => exact h

theorem lk_cons (j : Nat) (x : S) (r : List (Nat × S)) (i : Nat) : lk ((j, x) :: r) i = if j = i then x else lk r i := by
  simp only [lk_step]
  by_cases h : j = i
  · subst h; simp
  · rw [if_neg h]
    have : Nat.beq j i = false := by
      cases hb : Nat.beq j i with
      | false => rfl
      | true => exact absurd (Nat.eq_of_beq_eq_true hb) h
    rw [this]

theorem lkl_cons (j : Nat) (x : List V) (r : List (Nat × List V)) (i : Nat) : lkl ((j, x) :: r) i = if j = i then some x else lkl r i := by
  simp only [lkl]
  by_cases h : j = i
  · subst h; simp
  · rw [if_neg h]
    have : Nat.beq j i = false := by
      cases hb : Nat.beq j i with
      | false => rfl
      | true => exact absurd (Nat.eq_of_beq_eq_true hb) h
    rw [this]

theorem getD_put {a : Act} {d : Nat} {v : Value} (hd : d < a.tmps.size) (i : Nat) :
    (a.put (some d) v).tmps.getD i undef = if d = i then v else a.tmps.getD i undef := by
  simp only [Act.put, Array.getD_eq_getD_getElem?, Array.getElem?_setIfInBounds]
  by_cases h : d = i
  · subst h; simp [hd]
  · simp [h]

/-- A result goes into its slot. -/
theorem RelA.put {n : Nat} {ρ : Ren} {lo : Nat → Option Nat} {st : St} {a : Act} {w : World} (hr : RelA n ρ lo st a w) {d : Nat} (hd : d < n) {x : S} {v : Value}
    (hx : RelS ρ lo x v) : RelA n ρ lo ⟨(d, x) :: st.s, st.l, st.h⟩ (a.put (some d) v) w where
  h := hr.h
  s i := by
    rw [lk_cons, getD_put (by rw [hr.size]; exact hd)]
    by_cases h : d = i
    · rw [if_pos h, if_pos h]; exact hx
    · rw [if_neg h, if_neg h]; exact hr.s i
  l := hr.l
  ldom := hr.ldom
  lout := hr.lout
  linj := hr.linj
  size := by simp [Act.put, hr.size]
  defs := hr.defs

/-- Constants. -/
theorem cstV_rel (ρ : Ren) {v : Value} {x : V} (h : cstV v = some x) : RelV ρ x v := by
  unfold cstV at h
  split at h <;> (try cases h) <;> constructor

theorem cstVs_rel (ρ : Ren) : ∀ {l : List Value} {cs : List V}, cstVs l = some cs → cs.length = l.length ∧ ∀ (i : Nat) (v : V) (x : Value), cs[i]? = some v → l[i]? = some x → RelV ρ v x
  | [], cs, h => by simp only [cstVs, Option.some.injEq] at h; subst h; simp
  | y :: r, cs, h => by
    simp only [cstVs, Option.bind_eq_some_iff] at h
    obtain ⟨x, hx, xs, hxs, h⟩ := h
    cases h
    obtain ⟨h1, h2⟩ := cstVs_rel ρ hxs
    refine ⟨by simp [h1], fun i v z hv hz => ?_⟩
    cases i with
    | zero => simp at hv hz; subst hv; subst hz; exact cstV_rel ρ hx
    | succ i => simp at hv hz; exact h2 i v z hv hz

theorem cstV_one {v : Value} {x : V} (h : cstV v = some x) : v.oneCell' = true := by
  unfold cstV at h
  split at h <;> first | rfl | (cases h)

theorem cstVs_one : ∀ {l : List Value} {cs : List V}, cstVs l = some cs → ∀ (i : Nat) (x : Value), l[i]? = some x → x.oneCell' = true
  | [], cs, _, i, x, hx => by simp at hx
  | v :: l, cs, h, i, x, hx => by
    simp only [cstVs, Option.bind_eq_some_iff] at h
    obtain ⟨y, hy, ys, hys, _⟩ := h
    cases i with
    | zero => simp at hx; subst hx; exact cstV_one hy
    | succ i => simp at hx; exact cstVs_one hys i x hx

theorem cstA_rel (ρ : Ren) {v : Value} {x : V} (h : cstA v = some x) : RelV ρ x v := by
  unfold cstA at h
  split at h
  · rename_i cs
    obtain ⟨xs, hx, rfl⟩ := Option.map_eq_some_iff.1 h
    obtain ⟨h1, h2⟩ := cstVs_rel ρ hx
    exact .agg xs cs (by simpa using h1.symm) (fun i v x hv hx => h2 i v x hv (by simpa using hx)) (fun i x hx' => cstVs_one hx i x (by simpa using hx'))
  · exact cstV_rel ρ h

theorem opnd_rel {n : Nat} {ρ : Ren} {lo : Nat → Option Nat} {st : St} {a : Act} {w : World} (hr : RelA n ρ lo st a w) (x : Operand) : RelS ρ lo (st.opnd x) (a.eval x) := by
  cases x with
  | tmp t => exact hr.s t
  | const v =>
    simp only [St.opnd, Act.eval]
    cases h : cstA v with
    | some x => exact cstA_rel ρ h
    | none => trivial
  | global g => trivial
  | func f => exact .fn f [] #[] rfl (by simp)

end
end Go.L
