/- How operations and code are played over plain values, each step handing on to what comes behind it. -/
import Derived.Test.YtkhnngghmlpbeaaGreatL1
namespace Go.L
noncomputable section

inductive LK where
  | int (k : IntKind)
  | bool
  | str
  | float (k : FloatKind)
  | cplx (k : FloatKind)
  | ref

inductive TY where
  | leaf (l : LK)
  | strt (ls : List LK)
  | blk (n : Nat)
  | tup (ts : List TY)
  | no

inductive X where
  | normal
  | exit (id : Nat)
  | ret
  | goto (l : Nat)

/-- What a leaf holds, in plain Lean. -/
def LK.T : LK → Type
  | .int _ => Int
  | .bool => Bool
  | .str => ByteArray
  | .float _ => Nat
  | .cplx _ => Nat × Nat
  | .ref => V

def LK.toV : (l : LK) → l.T → V
  | .int k, n => .int k n
  | .bool, b => .bool b
  | .str, s => .str s
  | .float k, b => .float k b
  | .cplx k, c => .cplx k c.1 c.2
  | .ref, v => v

def asCplx' (k : FloatKind) (o : Option V) : Option (Nat × Nat) :=
  match o with
  | some (.cplx k' a b) => if k' = k then some (a, b) else none
  | _ => none

def LK.ofV : (l : LK) → V → Option l.T
  | .int k, v => asInt k (some v)
  | .bool, v => asBool (some v)
  | .str, v => asStr (some v)
  | .float k, v => asFloat k (some v)
  | .cplx k, v => asCplx' k (some v)
  | .ref, v => some v

/-- What a slot holds: one leaf, a struct's leaves, a block of cells, a place in an own variable. -/
inductive SK where
  | one (l : LK)
  | agg (ls : List LK)
  | blk
  | clo (f : FuncId) (ls : List LK)
  | lp (t off : Nat)

def TupL : List LK → Type → Type
  | [], E => E
  | l :: r, E => l.T × TupL r E

def SK.T (k : SK) (E : Type) : Type :=
  match k with
  | .one l => l.T × E
  | .agg ls => TupL ls E
  | .blk => List V × E
  | .clo _ ls => TupL ls E
  | .lp _ _ => E

def Tup : List SK → Type → Type
  | [], E => E
  | k :: r, E => k.T (Tup r E)

def encLs : (ls : List LK) → List V → {E : Type} → Option E → Option (TupL ls E)
  | [], vs, _, e => match vs with
    | [] => e
    | _ :: _ => none
  | l :: r, vs, _, e => match vs with
    | v :: vs => (l.ofV v).bind fun x => (encLs r vs e).bind fun y => some (x, y)
    | [] => none

def decLs : (ls : List LK) → {E : Type} → TupL ls E → List V × E
  | [], _, e => ([], e)
  | l :: r, _, t => (l.toV t.1 :: (decLs r t.2).1, (decLs r t.2).2)

def asCells (v : V) : Option (List V) :=
  match v with
  | .agg cs => some cs
  | _ => none

def asClo (f : FuncId) (v : V) : Option (List V) :=
  match v with
  | .fn g cs => match Nat.beq g f with
    | true => some cs
    | false => none
  | _ => none

def SK.encV : (k : SK) → V → {E : Type} → Option E → Option (k.T E)
  | .one l, v, _, e => (l.ofV v).bind fun x => e.bind fun y => some (x, y)
  | .agg ls, v, _, e => (asCells v).bind fun cs => encLs ls cs e
  | .blk, v, _, e => (asCells v).bind fun cs => e.bind fun y => some (cs, y)
  | .clo f ls, v, _, e => (asClo f v).bind fun cs => encLs ls cs e
  | .lp _ _, _, _, _ => none

def asLp (a b : Nat) (x : S) : Option Unit :=
  match x with
  | .lp a' b' => match Nat.beq a' a, Nat.beq b' b with
    | true, true => some ()
    | _, _ => none
  | _ => none

def asSv (x : S) : Option V :=
  match x with
  | .v v => some v
  | _ => none

def SK.enc : (k : SK) → S → {E : Type} → Option E → Option (k.T E)
  | .lp a b, x, _, e => (asLp a b x).bind fun _ => e
  | .one l, x, _, e => (asSv x).bind fun v => (SK.one l).encV v e
  | .agg ls, x, _, e => (asSv x).bind fun v => (SK.agg ls).encV v e
  | .blk, x, _, e => (asSv x).bind fun v => SK.blk.encV v e
  | .clo f ls, x, _, e => (asSv x).bind fun v => (SK.clo f ls).encV v e

def SK.dec : (k : SK) → {E : Type} → k.T E → S × E
  | .one l, _, t => (.v (l.toV t.1), t.2)
  | .agg ls, _, t => (.v (.agg (decLs ls t).1), (decLs ls t).2)
  | .blk, _, t => (.v (.agg t.1), t.2)
  | .clo f ls, _, t => (.v (.fn f (decLs ls t).1), (decLs ls t).2)
  | .lp a b, _, t => (.lp a b, t)

def SK.decV : (k : SK) → {E : Type} → k.T E → V × E
  | .one l, _, t => (l.toV t.1, t.2)
  | .agg ls, _, t => (.agg (decLs ls t).1, (decLs ls t).2)
  | .blk, _, t => (.agg t.1, t.2)
  | .clo f ls, _, t => (.fn f (decLs ls t).1, (decLs ls t).2)
  | .lp _ _, _, t => (.nilp, t)

def encSs : (ks : List SK) → List (Nat × S) → {E : Type} → Option E → Option (Tup ks E)
  | [], xs, _, e => match xs with
    | [] => e
    | _ :: _ => none
  | k :: r, xs, _, e => match xs with
    | x :: xs => k.enc x.2 (encSs r xs e)
    | [] => none

def decSs : (ks : List SK) → List Nat → {E : Type} → Tup ks E → List (Nat × S) × E
  | [], _, _, e => ([], e)
  | k :: r, ix, _, t => ((ix.headD 0, (k.dec t).1) :: (decSs r ix.tail (k.dec t).2).1, (decSs r ix.tail (k.dec t).2).2)

def encVs : (ks : List SK) → List V → {E : Type} → Option E → Option (Tup ks E)
  | [], xs, _, e => match xs with
    | [] => e
    | _ :: _ => none
  | k :: r, xs, _, e => match xs with
    | x :: xs => k.encV x (encVs r xs e)
    | [] => none

def decVs : (ks : List SK) → {E : Type} → Tup ks E → List V × E
  | [], _, e => ([], e)
  | k :: r, _, t => ((k.decV t).1 :: (decVs r (k.decV t).2).1, (decVs r (k.decV t).2).2)

/-- What a call gives. -/
def outR (rs : List SK) (s : Tup rs H) : V × H :=
  (match (decVs rs s).1 with
    | [v] => v
    | vs => .tup vs, (decVs rs s).2)

/-- A variable of the call's own: its leaves, or its cells as they are. -/
inductive LSp where
  | cells (ls : List LK)
  | blk

def LSp.T (k : LSp) (E : Type) : Type :=
  match k with
  | .cells ls => TupL ls E
  | .blk => List V × E

def TupV : List LSp → Type → Type
  | [], E => E
  | k :: r, E => k.T (TupV r E)

def LSp.enc : (k : LSp) → List V → {E : Type} → Option E → Option (k.T E)
  | .cells ls, cs, _, e => encLs ls cs e
  | .blk, cs, _, e => e.bind fun y => some (cs, y)

def LSp.dec : (k : LSp) → {E : Type} → k.T E → List V × E
  | .cells ls, _, t => decLs ls t
  | .blk, _, t => t

def encLl : (ks : List LSp) → List Nat → List (Nat × List V) → {E : Type} → Option E → Option (TupV ks E)
  | [], _, xs, _, e => match xs with
    | [] => e
    | _ :: _ => none
  | k :: r, ix, xs, _, e => match xs with
    | x :: xs => match ix with
      | i :: ix => match Nat.beq x.1 i with
        | true => k.enc x.2 (encLl r ix xs e)
        | false => none
      | [] => none
    | [] => none

def decLl : (ks : List LSp) → List Nat → {E : Type} → TupV ks E → List (Nat × List V) × E
  | [], _, _, e => ([], e)
  | k :: r, ix, _, t => ((ix.headD 0, (k.dec t).1) :: (decLl r ix.tail (k.dec t).2).1, (decLl r ix.tail (k.dec t).2).2)

/-- One way in which a piece of code may end, and what is looked at behind it: slots and what they hold, own variables. -/
structure Alt where
  x : X
  ix : List Nat
  ks : List SK
  lx : List Nat
  ls : List LSp

def Alt.T (a : Alt) : Type := Tup a.ks (TupV a.ls H)

def AltT : List Alt → Type
  | [] => Empty
  | [a] => a.T
  | a :: b :: r => a.T ⊕ AltT (b :: r)

/-- A function, as a call of it is played: of what it gets to what it gives. -/
structure Fun where
  S : Type
  F : List V → H → Option S
  out : S → V × H

structure PFun where
  S : Type
  F : List V → Option S
  out : S → V

/-- What is known of a callee: plain; one that is not of the text; one that leaves memory as it is; any other. -/
inductive Cal where
  | pure (F : PFun)
  | ext (F : PFun)
  | ro (F : Fun)
  | full (F : Fun)
  /-- All that was there stays as it is. -/
  | gro (F : Fun)
  /-- Of all that was there, it writes into the object of its first argument only. -/
  | own (F : Fun)
  /-- One of some functions: the first of what it gets is which. -/
  | dyn (F : Fun)

structure LoopA where
  head : Alt
  outs : List Alt
  L : Nat → head.T → Option (AltT outs)

/-- What the play of one function goes by. -/
structure Env where
  P : Program
  n : Nat
  lc : Nat → Bool
  fz : Nat → Bool
  lpT : Nat → Option Nat
  rl : Nat → Bool
  cal : FuncId → Option Cal
  jn : Nat → Option (List Alt)
  lp : Nat → Option LoopA
  rs : Nat → Option Nat

def collect (f : TypeId → Option (List LK)) : List TypeId → Option (List LK)
  | [] => some []
  | t :: r => (f t).bind fun a => (collect f r).bind fun b => some (a ++ b)

def leaves (P : Program) : Nat → TypeId → Option (List LK)
  | 0, _ => none
  | d + 1, t => match P.underlying t with
    | some (.int k) => some [.int k]
    | some .bool => some [.bool]
    | some .string => some [.str]
    | some (.float k) => some [.float k]
    | some (.complex k) => some [.cplx k]
    | some (.pointer _) | some (.slice _) | some (.map _ _) | some (.func ..) => some [.ref]
    | some (.struct fs) => collect (leaves P d) (fs.toList.map (·.type))
    | _ => none

def leaf1 (P : Program) (t : TypeId) (l : LK) : TY := if P.cellsOf t = 1 then .leaf l else .no

def tyOf (P : Program) : Nat → TypeId → TY
  | 0, _ => .no
  | d + 1, t => match P.underlying t with
    | some (.int k) => leaf1 P t (.int k)
    | some .bool => leaf1 P t .bool
    | some .string => leaf1 P t .str
    | some (.float k) => leaf1 P t (.float k)
    | some (.complex k) => leaf1 P t (.cplx k)
    | some (.pointer _) | some (.slice _) | some (.map _ _) | some (.func ..) => leaf1 P t .ref
    | some (.struct _) => if P.cellsOf t = 0 then .no else match leaves P 20 t with
      | some ls => if ls.length = P.cellsOf t then (if ls.length ≤ 24 then .strt ls else .blk (P.cellsOf t)) else .blk (P.cellsOf t)
      | none => .blk (P.cellsOf t)
    | some (.array _ _) => if P.cellsOf t = 0 then .no else .blk (P.cellsOf t)
    | some (.tuple ts) => .tup (ts.toList.map (tyOf P d))
    | _ => .no

def LK.dest {R : Type} (l : LK) (o : Option V) (K : V → Option R) : Option R :=
  match l with
  | .int k => (asInt k o).bind fun n => K (.int k n)
  | .bool => (asBool o).bind fun b => K (.bool b)
  | .str => (asStr o).bind fun s => K (.str s)
  | .float k => (asFloat k o).bind fun b => K (.float k b)
  | .cplx k => (asCplx k o).bind fun c => K (.cplx k c.1 c.2)
  | .ref => o.bind K

def rdLs {R : Type} : List LK → (Nat → Option V) → Nat → (List V → Option R) → Option R
  | [], _, _, K => K []
  | l :: r, get, i, K => l.dest (get i) fun v => rdLs r get (i + 1) fun vs => K (v :: vs)

def asTup (n : Nat) (o : Option V) : Option (List V) :=
  match o with
  | some (.tup vs) => if vs.length = n then some vs else none
  | _ => none

def tyDest1 {R : Type} (t : TY) (o : Option V) (K : V → Option R) : Option R :=
  match t with
  | .leaf l => l.dest o K
  | .strt ls => (asAgg ls.length o).bind fun vs => rdLs ls (fun i => vs[i]?) 0 fun cs => K (.agg cs)
  | .blk n => (asAgg n o).bind fun vs => K (.agg vs)
  | _ => none

def tupDest {R : Type} : List TY → (Nat → Option V) → Nat → (List V → Option R) → Option R
  | [], _, _, K => K []
  | t :: r, get, i, K => tyDest1 t (get i) fun v => tupDest r get (i + 1) fun vs => K (v :: vs)

def tyDest {R : Type} (t : TY) (o : Option V) (K : V → Option R) : Option R :=
  match t with
  | .tup ts => (asTup ts.length o).bind fun vs => tupDest ts (fun i => vs[i]?) 0 fun cs => K (.tup cs)
  | t => tyDest1 t o K

def cstV (v : Value) : Option V :=
  match v with
  | .int k n => some (.int k n)
  | .bool b => some (.bool b)
  | .string s => some (.str s)
  | .float k b => some (.float k b)
  | .complex k a b => some (.cplx k a b)
  | .pointer none => some .nilp
  | .slice none 0 0 => some .nils
  | .map none => some .nilm
  | .nilFunc => some .nilf
  | _ => none

def cstVs : List Value → Option (List V)
  | [] => some []
  | v :: r => (cstV v).bind fun x => (cstVs r).bind fun xs => some (x :: xs)

/-- A constant, of leaves or a struct of them. -/
def cstA (v : Value) : Option V :=
  match v with
  | .agg cs => (cstVs cs.toList).map .agg
  | v => cstV v

def zeroCells (P : Program) (t : TypeId) : Option (List V) :=
  ((P.info? t).bind (·.zero)).bind fun v => cstVs v.cells.toList

/-- The zero value of a kind of one cell. -/
def zeroLeaf (P : Program) (t : TypeId) : Option V := ((P.info? t).bind (·.zero)).bind cstV

def St.opnd (st : St) (x : Operand) : S :=
  match x with
  | .tmp t => lk st.s t
  | .const v => match cstA v with
    | some x => .v x
    | none => .bad
  | .func f => .v (.fn f [])
  | .global _ => .bad

/-- One cell behind a place. -/
def St.get (st : St) (p : S) (i : Nat) : Option V :=
  match p with
  | .lp t off => match lkl st.l t with
    | some cs => cs[off + i]?
    | none => none
  | .v p | .p p => rd st.h p i
  | _ => none

def St.getN (st : St) (p : S) (n : Nat) : Option (List V) :=
  match p with
  | .lp t off => match lkl st.l t with
    | some cs => if off + n ≤ cs.length then some ((cs.drop off).take n) else none
    | none => none
  | .v p | .p p => rdN st.h p n
  | _ => none

/-- Is a value one cell? -/
def ck1 (x : V) : Option Unit :=
  match x with
  | .agg _ | .tup _ => none
  | _ => some ()

/-- A value's cells, as its type says how many. -/
def cellsAs {R : Type} (t : TY) (x : V) (K : List V → Option R) : Option R :=
  match t with
  | .leaf _ => (ck1 x).bind fun _ => K [x]
  | .strt ls => match x with
    | .agg cs => if cs.length = ls.length then K cs else none
    | _ => none
  | .blk n => match x with
    | .agg cs => if cs.length = n then K cs else none
    | _ => none
  | _ => none

def St.put {R : Type} (st : St) (p : S) (xs : List V) (K : List (Nat × List V) → H → Option R) : Option R :=
  match p with
  | .lp t off => match lkl st.l t with
    | some cs => if off + xs.length ≤ cs.length then K ((t, splice cs off xs) :: st.l) st.h else none
    | none => none
  | .v p | .p p => (wr st.h p xs).bind fun h => K st.l h
  | _ => none

def intBin {R : Type} (op : BinOp) (k : IntKind) (a b : Int) (K : V → Option R) : Option R :=
  match op with
  | .add => K (.int k (k.wrap (a + b)))
  | .sub => K (.int k (k.wrap (a - b)))
  | .mul => K (.int k (k.wrap (a * b)))
  | .quo => if b = 0 then none else K (.int k (k.wrap (a.tdiv b)))
  | .rem => if b = 0 then none else K (.int k (a.tmod b))
  | .eql => K (.bool (a == b))
  | .neq => K (.bool (a != b))
  | .lss => K (.bool (decide (a < b)))
  | .leq => K (.bool (decide (a ≤ b)))
  | .gtr => K (.bool (decide (a > b)))
  | .geq => K (.bool (decide (a ≥ b)))
  | .and => K (.int k (k.wrap (BitVec.ofInt k.bits a &&& BitVec.ofInt k.bits b).toNat))
  | .or => K (.int k (k.wrap (BitVec.ofInt k.bits a ||| BitVec.ofInt k.bits b).toNat))
  | .xor => K (.int k (k.wrap (BitVec.ofInt k.bits a ^^^ BitVec.ofInt k.bits b).toNat))
  | .andNot => K (.int k (k.wrap (BitVec.ofInt k.bits a &&& ~~~ (BitVec.ofInt k.bits b)).toNat))
  | _ => none

def shiftBin {R : Type} (op : BinOp) (k : IntKind) (a b : Int) (K : V → Option R) : Option R :=
  match op with
  | .shl => if b < 0 then none else K (.int k (k.wrap (a * 2 ^ (min b.toNat k.bits))))
  | .shr => if b < 0 then none else K (.int k (a.fdiv (2 ^ (min b.toNat k.bits))))
  | _ => none

def strBin {R : Type} (op : BinOp) (a b : ByteArray) (K : V → Option R) : Option R :=
  match op with
  | .add => if a.size + b.size ≤ mostCells then K (.str (a ++ b)) else none
  | .eql => K (.bool (a.toList == b.toList))
  | .neq => K (.bool (!(a.toList == b.toList)))
  | .lss => K (.bool (Op.bytesLess a.toList b.toList))
  | .leq => K (.bool (Op.bytesLess a.toList b.toList || a.toList == b.toList))
  | .gtr => K (.bool (!(Op.bytesLess a.toList b.toList || a.toList == b.toList)))
  | .geq => K (.bool (!Op.bytesLess a.toList b.toList))
  | _ => none

def floatBin {R : Type} (op : BinOp) (k : FloatKind) (a b : Nat) (K : V → Option R) : Option R :=
  match op with
  | .eql => K (.bool (k.format.order a b == some .eq))
  | .neq => K (.bool (k.format.order a b != some .eq))
  | .lss => K (.bool (k.format.order a b == some .lt))
  | .leq => K (.bool (k.format.order a b == some .lt || k.format.order a b == some .eq))
  | .gtr => K (.bool (k.format.order a b == some .gt))
  | .geq => K (.bool (k.format.order a b == some .gt || k.format.order a b == some .eq))
  | .add => (k.format.add a b).bind fun r => K (.float k r)
  | .sub => (k.format.sub a b).bind fun r => K (.float k r)
  | .mul => (k.format.mul a b).bind fun r => K (.float k r)
  | .quo => (k.format.div a b).bind fun r => K (.float k r)
  | _ => none

/-- Equality of values of leaf kinds, part by part: what can be told without memory. -/
def leafEq (k : LK) (a b : V) : Option Bool :=
  match k, a, b with
  | .int _, .int k a, .int k' b => if k = k' then some (a == b) else none
  | .bool, .bool a, .bool b => some (a == b)
  | .str, .str a, .str b => some (a.toList == b.toList)
  | .float _, .float k a, .float k' b => if k = k' then some (Op.floatEq k a b) else none
  | .cplx _, .cplx k a b, .cplx k' c d => if k = k' then some (Op.floatEq k a c && Op.floatEq k b d) else none
  | _, _, _ => none

/-- A part of a struct. -/
def partV (P : Program) (t : TypeId) (cs : List V) (off : Nat) : Option V :=
  match P.underlying t with
  | some (.struct _) => some (.agg ((cs.drop off).take (P.cellsOf t)))
  | some (.array _ _) => none
  | some _ => cs[off]?
  | none => none

def eqFs (P : Program) (eq : TypeId → V → V → Option Bool) (xs ys : List V) : List Field → Option Bool
  | [] => some true
  | f :: fs => if f.name = "_" then none else
    (partV P f.type xs f.offset).bind fun x => (partV P f.type ys f.offset).bind fun y =>
      (eq f.type x y).bind fun r => (eqFs P eq xs ys fs).bind fun r' => some (r && r')

/-- Equality, part by part. -/
def eqV (P : Program) : Nat → TypeId → V → V → Option Bool
  | 0, _, _, _ => none
  | d + 1, t, x, y => match P.underlying t with
    | some (.struct fs) => match x, y with
      | .agg xs, .agg ys => if P.stoodInHeld t = true then none else eqFs P (eqV P d) xs ys fs.toList
      | _, _ => none
    | some (.int k) => leafEq (.int k) x y
    | some .bool => leafEq .bool x y
    | some .string => leafEq .str x y
    | some (.float k) => leafEq (.float k) x y
    | some (.complex k) => leafEq (.cplx k) x y
    | _ => none

def eqBin {R : Type} (neg : Bool) (r : Option Bool) (K : V → Option R) : Option R :=
  r.bind fun b => K (.bool (match neg with | true => !b | false => b))

/-- Are two values of an array's type the same (whole numbers alone)? -/
def intsEq : List V → List V → Option Bool
  | [], [] => some true
  | .int k a :: as, .int k' b :: bs => if k = k' then (intsEq as bs).bind fun y => some (a == b && y) else none
  | _, _ => none

def nilBin {R : Type} (op : BinOp) (r : Option Bool) (K : V → Option R) : Option R :=
  match op with
  | .eql => eqBin false r K
  | .neq => eqBin true r K
  | _ => none

def aggEq (P : Program) (t : TypeId) (a b : List V) : Option Bool :=
  if P.eqGuardType P.depth t = true then none else
  match P.underlying t with
  | some (.struct _) => eqV P 100 t (.agg a) (.agg b)
  | some (.array n e) => match P.underlying e with
    | some (.int _) => if P.cellsOf e = 1 then (if a.length = n then intsEq a b else none) else none
    | _ => none
  | _ => none

def binX {R : Type} (E : Env) (op : BinOp) (t : TypeId) (x y : V) (K : V → Option R) : Option R :=
  match op, x, y with
  | .shl, .int k a, .int _ b => shiftBin .shl k a b K
  | .shr, .int k a, .int _ b => shiftBin .shr k a b K
  | op, .int k a, .int k' b => if k = k' then intBin op k a b K else none
  | op, .str a, .str b => strBin op a b K
  | op, .float k a, .float k' b => if k = k' then floatBin op k a b K else none
  | .eql, .bool a, .bool b => match E.P.underlying t with
    | some .bool => K (.bool (a == b))
    | _ => none
  | .neq, .bool a, .bool b => match E.P.underlying t with
    | some .bool => K (.bool (!(a == b)))
    | _ => none
  | .eql, .cplx k a b, .cplx k' c d => if k = k' then K (.bool (Op.floatEq k a c && Op.floatEq k b d)) else none
  | .neq, .cplx k a b, .cplx k' c d => if k = k' then K (.bool (!(Op.floatEq k a c && Op.floatEq k b d))) else none
  | .eql, .agg a, .agg b => eqBin false (aggEq E.P t a b) K
  | .neq, .agg a, .agg b => eqBin true (aggEq E.P t a b) K
  | _, _, _ => none

def binS {R : Type} (E : Env) (op : BinOp) (t : TypeId) (x y : V) (K : V → Option R) : Option R :=
  match y with
  | .nilp => match E.P.underlying t with
    | some (.pointer _) => nilBin op (isNil x) K
    | _ => none
  | .nils => match E.P.underlying t with
    | some (.slice _) => nilBin op (isNilS x) K
    | _ => none
  | .nilm => match E.P.underlying t with
    | some (.map _ _) => nilBin op (isNilM x) K
    | _ => none
  | .nilf => match E.P.underlying t with
    | some (.func ..) => nilBin op (isNilF x) K
    | _ => none
  | y => binX E op t x y K

def unS {R : Type} (op : UnOp) (x : V) (K : V → Option R) : Option R :=
  match op, x with
  | .not, .bool b => K (.bool (!b))
  | .neg, .int k n => K (.int k (k.wrap (0 - n)))
  | .neg, .float k b => K (.float k (Op.negFloat k b))
  | .xor, .int k n => K (.int k (k.wrap (BitVec.ofInt k.bits (if k.signed then -1 else k.max) ^^^ BitVec.ofInt k.bits n).toNat))
  | _, _ => none

def f2i (src : FloatKind) (b : Nat) (dst : IntKind) : Option Int :=
  match (src.decode b).toInt .zero with
  | some n => if dst.min ≤ n ∧ n ≤ dst.max then some n else none
  | none => none

def convS {R : Type} (P : Program) (src dst : TypeId) (x : V) (K : V → Option R) : Option R :=
  match P.underlying src, P.underlying dst, x with
  | some _, some (.int k), .int _ n => K (.int k (k.wrap n))
  | some _, some (.float k), .int _ n => K (.float k (k.nearest n))
  | some _, some (.int k), .float s b => (f2i s b k).bind fun n => K (.int k n)
  | some _, some .string, .str s => K (.str s)
  | _, _, _ => none

/-- Where a part of a struct or an array lies, and of what make it is. -/
def placeOf (P : Program) (t : TypeId) (i : Nat) : Option (Nat × TypeId) :=
  match P.underlying t with
  | some (.struct fs) => (fs[i]?).map fun f => (f.offset, f.type)
  | some (.array _ e) => some (i * P.cellsOf e, e)
  | _ => none

def partsOk (P : Program) (t : TypeId) : Bool :=
  match P.underlying t with
  | some (.struct fs) => fs.toList.all fun f => decide (P.cellsOf f.type ≠ 0)
  | some (.array _ e) => decide (P.cellsOf e ≠ 0)
  | _ => false

def buildS {R : Type} (E : Env) (place : Nat → Option (Nat × TypeId)) (st : St) : List (Nat × Operand) → List V → (List V → Option R) → Option R
  | [], cs, K => K cs
  | (i, x) :: r, cs, K => match place i, st.opnd x with
    | some (off, t), .v x => cellsAs (tyOf E.P 2 t) x fun xs => if off + xs.length ≤ cs.length then buildS E place st r (splice cs off xs) K else none
    | _, _ => none

def elemOf (P : Program) (t : TypeId) : Option TypeId :=
  match P.underlying t with
  | some (.slice e) => some e
  | _ => none

def optInt (st : St) (o : Option Operand) (d : Int) : Option Int :=
  match o with
  | none => some d
  | some x => match st.opnd x with
    | .v (.int _ n) => some n
    | _ => none

def repeatC : Nat → List V → List V
  | 0, _ => []
  | n + 1, z => z ++ repeatC n z

def strSub {R : Type} (s : ByteArray) (lo hi : Int) (K : V → Option R) : Option R :=
  if 0 ≤ lo then (if lo ≤ hi then (if hi ≤ s.size then K (.str (s.extract lo.toNat hi.toNat)) else none) else none) else none

def argVs (st : St) : List Operand → Option (List V)
  | [] => some []
  | x :: r => match st.opnd x with
    | .v v => (argVs st r).bind fun vs => some (v :: vs)
    | _ => none

/-- Arguments: literal ones hand on at once. -/
def argsK {R : Type} (st : St) : List Operand → (List V → Option R) → Option R
  | [], K => K []
  | x :: r, K => match st.opnd x with
    | .v v => argsK st r fun vs => K (v :: vs)
    | _ => none

def keyOk (P : Program) (t : TypeId) (k : V) : Bool :=
  match P.underlying t, k with
  | some (.int k'), .int k _ => decide (k = k')
  | some .string, .str _ => true
  | some .bool, .bool _ => true
  | _, _ => false

def min2 {R : Type} (isMax : Bool) (x y : V) (K : V → Option R) : Option R :=
  match x, y with
  | .int k a, .int k' b => if k = k' then (match isMax with | false => K (.int k (if b < a then b else a)) | true => K (.int k (if b > a then b else a))) else none
  | _, _ => none

/-- Does a slot hold an address of a variable of the call's own just where it should? -/
def lpOk (E : Env) (d : Nat) (x : S) : Bool :=
  match x with
  | .lp t _ => match E.lpT d with
    | some t' => Nat.beq t t'
    | none => false
  | .bad => true
  | .un => true
  | _ => match E.lpT d with
    | some _ => false
    | none => true

/-- A result goes into its slot, and on. -/
def fin {R : Type} (E : Env) (o : Oper) (st : St) (K : St → Option R) (x : S) (l : List (Nat × List V)) (h : H) : Option R :=
  match o.dst with
  | none => K ⟨st.s, l, h⟩
  | some d => match Nat.blt d E.n with
    | true => match lpOk E d x with
      | true => K ⟨(d, x) :: st.s, l, h⟩
      | false => K ⟨(d, .bad) :: st.s, l, h⟩
    | false => none

def ownOf (E : Env) (o : Oper) : Bool :=
  match o.dst with
  | some d => E.lc d
  | none => false

def fzOf (E : Env) (o : Oper) : Bool :=
  match o.dst with
  | some d => E.fz d
  | none => false

/-- An allocation whose place is kept ahead. -/
def rsOf (E : Env) (o : Oper) : Option Nat :=
  match o.dst with
  | some d => E.rs d
  | none => none

def finV {R : Type} (E : Env) (o : Oper) (st : St) (K : St → Option R) (v : V) : Option R := fin E o st K (.v v) st.l st.h

/-- A slice that may be frozen at once. -/
def finF {R : Type} (E : Env) (o : Oper) (st : St) (K : St → Option R) (es : Nat) (v : V) (h : H) : Option R :=
  match fzOf E o with
  | true => (hfreeze h v es).bind fun r => fin E o st K (.v r.1) st.l r.2
  | false => fin E o st K (.v v) st.l h

/-- Cells are written from a slice's start on. -/
def hwrAll (h : H) (s : V) (es : Nat) (cs : List V) : Option H :=
  match s with
  | .sl id ver off len es' _ => if es' = es then (if cs.length ≤ len * es then (match cs with
    | [] => some h
    | c :: cs => wr h (.ptr id ver off) (c :: cs)) else none) else none
  | .nils => match cs with
    | [] => some h
    | _ :: _ => none
  | _ => none

def scapK (s : V) : Option Int :=
  match s with
  | .nils => some 0
  | .sl _ _ _ _ _ (some c) => some c
  | _ => none

def evBuiltin {R : Type} (E : Env) (o : Oper) (b : Builtin) (argTypes : Array TypeId) (args : List V) (st : St) (K : St → Option R) : Option R :=
  match b, args with
  | .len, [x] => match (argTypes[0]?).bind E.P.underlying with
      | some .string => match x with
        | .str s => finV E o st K (.int .i64 s.size)
        | _ => none
      | some (.slice _) => (slen x).bind fun n => finV E o st K (.int .i64 n)
      | some (.array n _) => finV E o st K (.int .i64 n)
      | some (.map _ _) => (hmap st.h x).bind fun es => finV E o st K (.int .i64 es.length)
      | _ => none
  | .append, [s, x] => match ((argTypes[0]?).bind (elemOf E.P)), (argTypes[1]?).bind E.P.underlying with
    | some e, some (.slice e') =>
      if E.P.cellsOf e = E.P.cellsOf e' then (if E.P.cellsOf e = 0 then none else
        if E.P.bytesOf e ≤ E.P.cellsOf e * 64 then
        if (zeroCells E.P e).map List.length = some (E.P.cellsOf e) then
        (scells st.h x (E.P.cellsOf e)).bind fun cs => (happ st.h s (E.P.cellsOf e) (snlen x) cs).bind fun r => finF E o st K (E.P.cellsOf e) r.1 r.2 else none else none) else none
    | _, _ => none
  | .delete, [m, key] => match (argTypes[0]?).bind E.P.underlying with
    | some (.map kt _) => if keyOk E.P kt key then (hmapdel st.h m key).bind fun h => fin E o st K (.v (.tup [])) st.l h else none
    | _ => none
  | .clear, [s] => match (argTypes[0]?).bind (elemOf E.P) with
    | some e => if E.P.cellsOf e = 0 then none else (zeroCells E.P e).bind fun z => if z.length = E.P.cellsOf e then
        (hwrAll st.h s (E.P.cellsOf e) (repeatC (snlen s) z)).bind fun h => fin E o st K (.v (.tup [])) st.l h else none
    | none => none
  | .copy, [d, s] => match (argTypes[0]?).bind (elemOf E.P) with
    | some e => if E.P.cellsOf e = 0 then none else (scells st.h s (E.P.cellsOf e)).bind fun cs => if snlen s ≤ snlen d then
        (hwrAll st.h d (E.P.cellsOf e) cs).bind fun h => fin E o st K (.v (.int .i64 (snlen s))) st.l h else none
    | none => none
  | .cap, [s] => match (argTypes[0]?).bind (elemOf E.P) with
    | some _ => (scapK s).bind fun n => finV E o st K (.int .i64 n)
    | none => none
  | .min, [x, y] => min2 false x y fun v => finV E o st K v
  | .max, [x, y] => min2 true x y fun v => finV E o st K v
  | .real, [.cplx fk a _] => finV E o st K (.float fk a)
  | .imag, [.cplx fk _ b] => finV E o st K (.float fk b)
  | .complex, [.float fk a, .float fk' b] => if fk = fk' then finV E o st K (.cplx fk a b) else none
  | _, _ => none

def rlOf (E : Env) (o : Oper) : Bool :=
  match o.dst with
  | some d => E.rl d
  | none => false

/-- One cell behind a pointer to what is never written. -/
def rdRo (p : V) (i : Nat) : Option V :=
  match p with
  | .rptr cs => cs[i]?
  | _ => none

/-- A slot's pointer. -/
def plOf (x : S) : Option V :=
  match x with
  | .v p | .p p => some p
  | _ => none

def callK {R : Type} (E : Env) (o : Oper) (st : St) (K : St → Option R) (f : FuncId) (vs : List V) : Option R :=
  match E.cal f with
  | some (.pure F) | some (.ext F) => (F.F vs).bind fun s => tyDest (tyOf E.P 3 o.type) (some (F.out s)) fun v => fin E o st K (.v v) st.l st.h
  | some (.ro F) => (F.F vs st.h).bind fun s => tyDest (tyOf E.P 3 o.type) (some (F.out s).1) fun v => fin E o st K (.v v) st.l st.h
  | some (.full F) | some (.gro F) | some (.own F) => (F.F vs st.h).bind fun s => tyDest (tyOf E.P 3 o.type) (some (F.out s).1) fun v =>
    match fzOf E o, elemOf E.P o.type with
    | true, some e => if E.P.cellsOf e ≠ 0 then finF E o st K (E.P.cellsOf e) v (F.out s).2 else none
    | true, none => none
    | false, _ => fin E o st K (.v v) st.l (F.out s).2
  | _ => none

/-- Where a call of what is not known ahead finds its table. -/
def dkey (o : Oper) : Nat :=
  match o.dst with
  | some d => 16777216 + d
  | none => 16777215

def evOp {R : Type} (E : Env) (o : Oper) (st : St) (K : St → Option R) : Option R :=
  match o.op with
  | .move x | .assign x => fin E o st K (st.opnd x) st.l st.h
  | .pick c a b => match st.opnd c with
    | .v (.bool t) => match st.opnd a, st.opnd b with
      | .v (.bool p), .v (.bool q) => finV E o st K (.bool (if t = true then p else q))
      | p, q => fin E o st K (if t = true then p else q) st.l st.h
    | _ => none
  | .alloc t => (zeroCells E.P t).bind fun cs =>
    match ownOf E o, o.dst with
    | true, some d => match lkl st.l d with
      | none => fin E o st K (.lp d 0) ((d, cs) :: st.l) st.h
      | some _ => none
    | _, _ => fin E o st K (.v (.ptr st.h.length 0 0)) st.l (st.h ++ [.cells 0 cs])
  | .box t x => match st.opnd x with
    | .v x => cellsAs (tyOf E.P 2 t) x fun cs =>
      match ownOf E o, o.dst with
      | true, some d => match lkl st.l d with
        | none => fin E o st K (.lp d 0) ((d, cs) :: st.l) st.h
        | some _ => none
      | _, _ => fin E o st K (.v (.ptr st.h.length 0 0)) st.l (st.h ++ [.cells 0 cs])
    | _ => none
  | .build t parts => if partsOk E.P t = true then (zeroCells E.P t).bind fun cs => buildS E (placeOf E.P t) st parts.toList cs fun cs => finV E o st K (.agg cs) else none
  | .buildSlice t len parts => (elemOf E.P t).bind fun e => (zeroCells E.P e).bind fun z =>
    if len * E.P.cellsOf e ≤ 2 ^ 24 then (if E.P.cellsOf e = 0 then none else if z.length = E.P.cellsOf e then
    buildS E (fun i => some (i * E.P.cellsOf e, e)) st parts.toList (repeatC len z) fun cs =>
      match ownOf E o with
      | true => finV E o st K (.rs (E.P.cellsOf e) (chunks (E.P.cellsOf e) len cs))
      | false => fin E o st K (.v (.sl st.h.length 0 0 len (E.P.cellsOf e) (some len))) st.l (st.h ++ [.cells 0 cs]) else none) else none
  | .load t a => match rlOf E o with
    | false => match tyOf E.P 2 t with
      | .leaf l => l.dest (st.get (st.opnd a) 0) (finV E o st K)
      | .strt ls => rdLs ls (st.get (st.opnd a)) 0 fun cs => finV E o st K (.agg cs)
      | .blk n => (st.getN (st.opnd a) n).bind fun cs => finV E o st K (.agg cs)
      | _ => none
    | true => match plOf (st.opnd a) with
      | some p => match tyOf E.P 2 t with
        | .leaf l => l.dest (rdRo p 0) (finV E o st K)
        | .strt ls => rdLs ls (rdRo p) 0 fun cs => finV E o st K (.agg cs)
        | _ => none
      | none => none
  | .store t a x => match st.opnd x with
    | .v x => cellsAs (tyOf E.P 2 t) x fun xs => st.put (st.opnd a) xs fun l h => fin E o st K .bad l h
    | _ => none
  | .nilCheck x => match st.opnd x with
    | .lp t off => fin E o st K (.lp t off) st.l st.h
    | .v p => (nck p).bind fun _ => fin E o st K (.p p) st.l st.h
    | .p p => fin E o st K (.p p) st.l st.h
    | _ => none
  | .binOp op t x y _ => match st.opnd x, st.opnd y with
    | .v x, .v y => binS E op t x y (finV E o st K)
    | _, _ => none
  | .unOp op _ x => match st.opnd x with
    | .v x => unS op x (finV E o st K)
    | _ => none
  | .convert src dst x => match st.opnd x with
    | .v x => convS E.P src dst x (finV E o st K)
    | _ => none
  | .makeFunc (.func f) first cap => match first.toList with
    | [] => argsK st cap.toList fun vs => finV E o st K (.fn f vs)
    | _ => none
  | .makeMap _ none => fin E o st K (.v (.map st.h.length)) st.l (st.h ++ [.map []])
  | .makeSlice t l c => match st.opnd l, st.opnd c, elemOf E.P t with
    | .v (.int .i64 l), .v (.int .i64 c), some e => (zeroCells E.P e).bind fun z =>
      if E.P.cellsOf e = 0 then none else
      if z.length = E.P.cellsOf e then
      if E.P.bytesOf e ≤ E.P.cellsOf e * 64 then
      (if 0 ≤ l then (if l ≤ c then (if c * E.P.cellsOf e ≤ mostCells then
        (match fzOf E o with
        | true => if l = c then finV E o st K (.rs (E.P.cellsOf e) (List.replicate l.toNat (if E.P.cellsOf e = 1 then z.headD default else .agg z))) else none
        | false => match rsOf E o with
          | none => fin E o st K (.v (.sl st.h.length 0 0 l.toNat (E.P.cellsOf e) (some c.toNat))) st.l (st.h ++ [.cells 0 (repeatC c.toNat z)])
          | some d => (hfill st.h d (repeatC c.toNat z)).bind fun h => fin E o st K (.v (.sl (st.h.length - d) 1 0 l.toNat (E.P.cellsOf e) (some c.toNat))) st.l h) else none) else none) else none) else none else none
    | _, _, _ => none
  | .slice t x lo hi mx => match elemOf E.P t with
    | some e => if E.P.cellsOf e = 0 then none else match st.opnd x with
      | .v x => (slen x).bind fun n => (optInt st lo 0).bind fun l => (optInt st hi n).bind fun u =>
          match mx with
          | none => (ssl (E.P.cellsOf e) x l u).bind fun v => finV E o st K v
          | some m => match hi with
            | none => none
            | some _ => (optInt st (some m) 0).bind fun m => (ssl3 (E.P.cellsOf e) x l u m).bind fun v => finV E o st K v
      | _ => none
    | none => match st.opnd x with
      | .v (.str s) => match mx with
        | none => match E.P.underlying t with
          | some .string => (optInt st lo 0).bind fun l => (optInt st hi s.size).bind fun u => strSub s l u (finV E o st K)
          | _ => none
        | some _ => none
      | _ => none
  | .fieldAddr t x i => match E.P.underlying t with
    | some (.struct fs) => match fs[i]? with
      | some f => if E.P.cellsOf f.type = 0 then none else match st.opnd x with
        | .lp t off => fin E o st K (.lp t (off + f.offset)) st.l st.h
        | .v p => (nck p).bind fun _ => fin E o st K (.p (padd p f.offset)) st.l st.h
        | .p p => fin E o st K (.p (padd p f.offset)) st.l st.h
        | _ => none
      | none => none
    | _ => none
  | .field t x i => match st.opnd x, placeOf E.P t i with
    | .v (.agg cs), some (off, ft) => match E.P.underlying t with
      | some (.struct _) => match tyOf E.P 2 ft with
        | .leaf l => l.dest cs[off]? (finV E o st K)
        | .strt ls => if off + ls.length ≤ cs.length then rdLs ls (fun j => cs[off + j]?) 0 fun cs => finV E o st K (.agg cs) else none
        | .blk n => if off + n ≤ cs.length then finV E o st K (.agg ((cs.drop off).take n)) else none
        | _ => none
      | _ => none
    | _, _ => none
  | .indexAddr t x i => match st.opnd i with
    | .v (.int _ i) => match E.P.underlying t with
      | some (.array n e) => match st.opnd x with
        | .lp t off => if 0 ≤ i then (if i < n then (if E.P.cellsOf e ≠ 0 then fin E o st K (.lp t (off + i.toNat * E.P.cellsOf e)) st.l st.h else none) else none) else none
        | .v p => (nck p).bind fun _ => (aidx p i n (E.P.cellsOf e)).bind fun q => fin E o st K (.p q) st.l st.h
        | .p p => (aidx p i n (E.P.cellsOf e)).bind fun q => fin E o st K (.p q) st.l st.h
        | _ => none
      | some (.slice e) => if E.P.cellsOf e = 0 then none else match st.opnd x with
        | .v s => (sidx s i (E.P.cellsOf e)).bind fun q => fin E o st K (.p q) st.l st.h
        | _ => none
      | _ => none
    | _ => none
  | .index t x i => match st.opnd x, st.opnd i with
    | .v (.agg cs), .v (.int _ i) => match E.P.underlying t with
      | some (.array n e) => if 0 ≤ i then (if i < n then (if E.P.cellsOf e ≠ 0 then
          (match tyOf E.P 2 e with
          | .leaf l => l.dest cs[i.toNat * E.P.cellsOf e]? (finV E o st K)
          | .strt ls => if i.toNat * E.P.cellsOf e + ls.length ≤ cs.length then rdLs ls (fun j => cs[i.toNat * E.P.cellsOf e + j]?) 0 fun cs => finV E o st K (.agg cs) else none
          | .blk m => if i.toNat * E.P.cellsOf e + m ≤ cs.length then finV E o st K (.agg ((cs.drop (i.toNat * E.P.cellsOf e)).take m)) else none
          | _ => none) else none) else none) else none
      | _ => none
    | .v (.str s), .v (.int _ i) => match E.P.underlying t with
      | some .string => if 0 ≤ i then (s[i.toNat]?).bind fun b => finV E o st K (.int .u8 b.toNat) else none
      | _ => none
    | _, _ => none
  | .lookup t x i ok => match st.opnd x, st.opnd i, E.P.underlying t with
    | .v m, .v key, some (.map kt et) => if keyOk E.P kt key then (hmap st.h m).bind fun es => (mlook key es).bind fun q => (zeroLeaf E.P et).bind fun z =>
        match tyOf E.P 2 et with
        | .leaf l => match ok with
          | true => l.dest (some (q.getD z)) fun v => finV E o st K (.tup [v, .bool q.isSome])
          | false => l.dest (some (q.getD z)) (finV E o st K)
        | _ => none
      else none
    | _, _, _ => none
  | .mapUpdate t m key x => match st.opnd m, st.opnd key, st.opnd x, E.P.underlying t with
    | .v m, .v key, .v x, some (.map kt et) => if keyOk E.P kt key then (match tyOf E.P 2 et with
        | .leaf _ => (hmapset st.h m key x).bind fun h => fin E o st K .bad st.l h
        | _ => none) else none
    | _, _, _, _ => none
  | .extract x i => match st.opnd x with
    | .v (.tup vs) => match vs[i]? with
      | some v => finV E o st K v
      | none => none
    | _ => none
  | .call c => match c.callee with
    | .value (.func f) => argsK st c.args.toList fun vs => callK E o st K f vs
    | .value (.tmp t) => match E.cal (dkey o) with
      | some (.dyn F) => match lk st.s t with
        | .v x => argsK st c.args.toList fun vs => (F.F (x :: vs) st.h).bind fun s => tyDest (tyOf E.P 3 o.type) (some (F.out s).1) fun v => fin E o st K (.v v) st.l (F.out s).2
        | _ => none
      | _ => match lk st.s t with
        | .v (.fn f cap) => argsK st c.args.toList fun vs => callK E o st K f (vs ++ cap)
        | _ => none
    | .builtin b => argsK st c.args.toList fun vs => evBuiltin E o b c.argTypes vs st K
    | _ => none
  | _ => none

def dstOf (ops : Array Oper) (j : Nat) : Option Nat := (ops[j]?).bind (·.dst)

def inGroup (j : Nat) (o : Oper) : Bool :=
  match o.guard with
  | some (i, _) => Nat.ble j i
  | none => false

/-- Does an operation leave the call's own variables as they are? -/
def quietL (E : Env) (o : Oper) : Bool :=
  match o.op with
  | .store .. => false
  | .alloc _ | .box .. => !ownOf E o
  | _ => true

/-- What was put inside a group is not looked at behind it. -/
def clr : List Oper → List (Nat × S) → List (Nat × S)
  | [], s => s
  | o :: r, s => match o.dst with
    | some d => (d, .bad) :: clr r s
    | none => clr r s

/-- How a group ends: its last slot and memory. -/
def groupFin (d : Nat) (st : St) : Option (Bool × H) :=
  match lk st.s d with
  | .v (.bool r) => some (r, st.h)
  | _ => none

def evOps {R : Type} (E : Env) (ops : Array Oper) : Nat → List Nat → List Oper → St → (St → Option R) → Option R
  | _, _, [], st, K => K st
  | 0, _, _ :: _, _, _ => none
  | n + 1, asm, o :: rest, st, K =>
    match o.guard with
    | none => evOp E o st fun st => evOps E ops n asm rest st K
    | some (j, want) =>
      match dstOf ops j with
      | none => none
      | some cj =>
        match asm.contains j with
        | true =>
          match lk st.s cj, want with
          | .v (.bool true), true => evOp E o st fun st => evOps E ops n asm rest st K
          | .v (.bool false), false => evOp E o st fun st => evOps E ops n asm rest st K
          | .v (.bool true), false => fin E o st (fun st => evOps E ops n asm rest st K) .un st.l st.h
          | .v (.bool false), true => fin E o st (fun st => evOps E ops n asm rest st K) .un st.l st.h
          | .un, _ => fin E o st (fun st => evOps E ops n asm rest st K) .un st.l st.h
          | _, _ => none
        | false =>
          match lk st.s cj with
          | .v (.bool b) =>
            match (o :: rest).dropWhile (inGroup j) with
            | p :: rest2 =>
              match p.dst with
              | none => none
              | some d =>
                match ((o :: rest).takeWhile (inGroup j) ++ [p]).all (quietL E) with
                | false => none
                | true =>
                  (if b = true then evOps E ops n (j :: asm) ((o :: rest).takeWhile (inGroup j) ++ [p]) ⟨(cj, .v (.bool true)) :: st.s, st.l, st.h⟩ (groupFin d)
                    else evOps E ops n (j :: asm) ((o :: rest).takeWhile (inGroup j) ++ [p]) ⟨(cj, .v (.bool false)) :: st.s, st.l, st.h⟩ (groupFin d)).bind fun r =>
                    evOps E ops n asm rest2 ⟨(d, .v (.bool r.1)) :: clr ((o :: rest).takeWhile (inGroup j)) st.s, st.l, r.2⟩ K
            | [] => none
          | .un => fin E o st (fun st => evOps E ops n asm rest st K) .un st.l st.h
          | _ => none

/-- A loop's name: its first region's. -/
def lid : Code → Nat
  | .region id _ _ => id
  | .seq a _ => lid a
  | .block _ c => lid c
  | .loop c => lid c
  | .cond _ a _ => lid a
  | _ => 0

/-- A slot, if its local variable is still there. -/
def keepS (l : List (Nat × List V)) (x : S) : S :=
  match x with
  | .lp t off => match lkl l t with
    | some _ => .lp t off
    | none => .bad
  | .p x => .v x
  | x => x

def normS (l : List (Nat × List V)) (s : List (Nat × S)) : List Nat → List (Nat × S)
  | [] => []
  | i :: r => (i, keepS l (lk s i)) :: normS l s r

def normL (l : List (Nat × List V)) : List Nat → List (Nat × List V)
  | [] => []
  | i :: r => match lkl l i with
    | some cs => (i, cs) :: normL l r
    | none => normL l r

def St.norm (st : St) (o : Option (List Nat × List Nat)) : St :=
  match o with
  | some (ls, ll) => ⟨normS (normL st.l ll) st.s ls, normL st.l ll, st.h⟩
  | none => st

def resVs {R : Type} (E : Env) (st : St) : List ResultVar → (List V → Option R) → Option R
  | [], K => K []
  | .tmp t :: r, K => match lk st.s t with
    | .v x => resVs E st r fun xs => K (x :: xs)
    | .p x => resVs E st r fun xs => K (x :: xs)
    | _ => none
  | .cell a t :: r, K => match tyOf E.P 2 t with
    | .leaf l => l.dest (st.get (lk st.s a) 0) fun x => resVs E st r fun xs => K (x :: xs)
    | .strt ls => rdLs ls (st.get (lk st.s a)) 0 fun cs => resVs E st r fun xs => K (.agg cs :: xs)
    | .blk n => (st.getN (lk st.s a) n).bind fun cs => resVs E st r fun xs => K (.agg cs :: xs)
    | _ => none

def resV (E : Env) (fn : Func) (st : St) : Option (V × H) :=
  resVs E st fn.results.toList fun vs => match vs with
    | [v] => some (v, st.h)
    | vs => some (.tup vs, st.h)

def argSlots : Nat → List V → List (Nat × S)
  | _, [] => []
  | i, v :: r => (i, .v v) :: argSlots (i + 1) r

end
end Go.L
