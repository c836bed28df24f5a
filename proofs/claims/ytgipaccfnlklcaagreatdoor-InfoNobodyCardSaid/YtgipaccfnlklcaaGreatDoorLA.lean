import GoSem.Dispatch
import Derived.Orders
import Derived.Tactics
import Derived.Laws.Cells
import Derived.Laws.Entries
import Derived.Laws.Tables
import Derived.Laws.CopyRow
import Derived.Lib.FrozenHead
import Derived.Laws.StructEq
import Derived.IntWalk
namespace Go.L

inductive V where
  | bool (b : Bool)
  | int (k : IntKind) (n : Int)
  | float (k : FloatKind) (b : Nat)
  | cplx (k : FloatKind) (re im : Nat)
  | str (s : ByteArray)
  | nilp
  | ptr (id ver off : Nat)
  | rptr (cs : List V)
  | nils
  | sl (id ver off len es : Nat) (cap : Option Nat)
  | rs (es : Nat) (xs : List V)
  | nilm
  | map (id : Nat)
  | nilf
  | fn (f : FuncId) (cap : List V)
  | fnb (f : FuncId) (first : List V)
  | agg (cs : List V)
  | tup (vs : List V)
  deriving Inhabited

inductive O where
  | cells (ver : Nat) (cs : List V)
  | map (clock : Nat) (bs : List Nat) (es : List (V × V))
  | iter (m : V) (since : Nat) (seen : List Nat) (last : Nat)
  | dead
  | rsv
  deriving Inhabited

abbrev H := List O

inductive S where
  | v (x : V)
  | p (x : V)
  | lp (t off : Nat)
  | bad
  | un

structure St where
  s : List (Nat × S)
  l : List (Nat × List V)
  h : H

noncomputable def lk (s : List (Nat × S)) (i : Nat) : S :=
  List.rec (motive := fun _ => S) .bad (fun p _ ih => Bool.rec ih p.2 (Nat.beq p.1 i)) s

theorem lk_nil (i : Nat) : lk [] i = .bad := rfl
theorem lk_step (j : Nat) (x : S) (r : List (Nat × S)) (i : Nat) : lk ((j, x) :: r) i = match Nat.beq j i with | true => x | false => lk r i := by
  cases h : Nat.beq j i <;> simp [lk, h]

def lkl : List (Nat × List V) → Nat → Option (List V)
  | [], _ => none
  | (j, x) :: r, i => match Nat.beq j i with | true => some x | false => lkl r i

def V.cells : V → List V
  | .agg cs => cs
  | v => [v]

def splice (cs : List V) (off : Nat) (xs : List V) : List V :=
  match xs with
  | [x] => cs.set off x
  | xs => cs.take off ++ (xs ++ cs.drop (off + xs.length))

def rd (h : H) (p : V) (i : Nat) : Option V :=
  match p with
  | .ptr id ver off => match h[id]? with
    | some (.cells v cs) => if v = ver then cs[off + i]? else none
    | _ => none
  | .rptr cs => cs[i]?
  | _ => none

def rdN (h : H) (p : V) (n : Nat) : Option (List V) :=
  match p with
  | .ptr id ver off => match h[id]? with
    | some (.cells v cs) => if v = ver then (if off + n ≤ cs.length then some ((cs.drop off).take n) else none) else none
    | _ => none
  | .rptr cs => if n ≤ cs.length then some (cs.take n) else none
  | _ => none

def wr (h : H) (p : V) (xs : List V) : Option H :=
  match p with
  | .ptr id ver off => match h[id]? with
    | some (.cells v cs) => if v = ver then (if off + xs.length ≤ cs.length then some (h.set id (.cells v (splice cs off xs))) else none) else none
    | _ => none
  | _ => none

def padd (p : V) (d : Nat) : V :=
  match p with
  | .ptr id ver off => .ptr id ver (off + d)
  | .rptr cs => .rptr (cs.drop d)
  | x => x

def nck (p : V) : Option Unit :=
  match p with
  | .ptr .. | .rptr _ => some ()
  | _ => none

def isNil (p : V) : Option Bool :=
  match p with
  | .nilp => some true
  | .ptr .. | .rptr _ => some false
  | _ => none

def isNilS (p : V) : Option Bool :=
  match p with
  | .nils => some true
  | .sl .. | .rs _ (_ :: _) => some false
  | _ => none

def isNilM (p : V) : Option Bool :=
  match p with
  | .nilm => some true
  | .map _ => some false
  | _ => none

def isNilF (p : V) : Option Bool :=
  match p with
  | .nilf => some true
  | .fn .. | .fnb .. => some false
  | _ => none

def sidx (s : V) (i : Int) (es : Nat) : Option V :=
  match s with
  | .sl id ver off len es' _ => if es' = es then (if 0 ≤ i then (if i < len then some (.ptr id ver (off + i.toNat * es)) else none) else none) else none
  | .rs es' xs => if es' = es then (if 0 ≤ i then (xs[i.toNat]?).map (fun v => .rptr v.cells) else none) else none
  | _ => none

def aidx (p : V) (i : Int) (n es : Nat) : Option V :=
  if 0 ≤ i then (if i < n then (if es ≠ 0 then some (padd p (i.toNat * es)) else none) else none) else none

def slen (s : V) : Option Int :=
  match s with
  | .nils => some 0
  | .sl _ _ _ len _ _ => some len
  | .rs _ xs => some xs.length
  | _ => none

def scap (s : V) : Nat :=
  match s with
  | .sl _ _ _ len _ (some c) => max len c
  | .sl _ _ _ len _ none => len
  | .rs _ xs => xs.length
  | _ => 0

def snlen (s : V) : Nat :=
  match s with
  | .sl _ _ _ len _ _ => len
  | .rs _ xs => xs.length
  | _ => 0

def scut (s : V) (lo hi : Nat) : V :=
  match s with
  | .sl id ver off _ es cap => .sl id ver (off + lo * es) (hi - lo) es (cap.map (· - lo))
  | .rs es xs => .rs es ((xs.drop lo).take (hi - lo))
  | x => x

def scut3 (s : V) (lo hi mx : Nat) : V :=
  match s with
  | .sl id ver off _ es _ => .sl id ver (off + lo * es) (hi - lo) es (some (mx - lo))
  | .rs es xs => .rs es ((xs.drop lo).take (hi - lo))
  | x => x

def isSl (s : V) : Bool :=
  match s with
  | .nils | .sl .. | .rs .. => true
  | _ => false

def esIs (s : V) (es : Nat) : Bool :=
  match s with
  | .sl _ _ _ _ es' _ => es' == es
  | .rs es' _ => es' == es
  | .nils => true
  | _ => false

def ssl (es : Nat) (s : V) (lo hi : Int) : Option V :=
  if esIs s es = true then (if 0 ≤ lo then (if lo ≤ hi then (if hi ≤ scap s then some (scut s lo.toNat hi.toNat) else none) else none) else none) else none

def ssl3 (es : Nat) (s : V) (lo hi mx : Int) : Option V :=
  if esIs s es = true then (if 0 ≤ lo then (if lo ≤ hi then (if hi ≤ mx then (if mx ≤ scap s then some (scut3 s lo.toNat hi.toNat mx.toNat) else none) else none) else none) else none) else none

def scells (h : H) (s : V) (es : Nat) : Option (List V) :=
  match s with
  | .nils => some []
  | .sl id ver off len es' _ => if es' = es then rdN h (.ptr id ver off) (len * es) else none
  | .rs es' xs => if es' = es then some (xs.flatMap V.cells) else none
  | _ => none

def mostCells : Nat := 2 ^ 32

def happ (h : H) (s : V) (es k : Nat) (new : List V) : Option (V × H) :=
  if k = 0 then (if isSl s then some (s, h) else none)
  else if new.length = k * es then
    match s with
    | .nils => if k * es ≤ mostCells then some (.sl h.length 0 0 k es none, h ++ [.cells 0 new]) else none
    | .sl id ver off len es' cap =>
      if es' = es then
        match h[id]? with
        | some (.cells v cs) =>
          if v = ver then
            if off + len * es ≤ cs.length then
              if (len + k) * es ≤ mostCells then
                match cap with
                | none => some (.sl id (ver + 1) 0 (len + k) es none, h.set id (.cells (ver + 1) ((cs.drop off).take (len * es) ++ new)))
                | some c =>
                  if len + k ≤ c then
                    if off + (len + k) * es ≤ cs.length then some (.sl id ver off (len + k) es cap, h.set id (.cells v (splice cs (off + len * es) new))) else none
                  else some (.sl h.length 0 0 (len + k) es none, h ++ [.cells 0 ((cs.drop off).take (len * es) ++ new)])
              else none
            else none
          else none
        | _ => none
      else none
    | _ => none
  else none

def hfill (h : H) (d : Nat) (cs : List V) : Option H :=
  match h[h.length - d]? with
  | some .rsv => some (h.set (h.length - d) (.cells 1 cs))
  | _ => none

def chunks (es : Nat) : Nat → List V → List V
  | 0, _ => []
  | n + 1, cs => (if es = 1 then (cs.headD default) else .agg (cs.take es)) :: chunks es n (cs.drop es)

mutual
def V.ground : V → Bool
  | .ptr .. | .sl .. | .map _ => false
  | .rptr cs | .rs _ cs | .fn _ cs | .fnb _ cs | .agg cs | .tup cs => V.grounds cs
  | _ => true
def V.grounds : List V → Bool
  | [] => true
  | v :: r => v.ground && V.grounds r
end

def hfreeze (h : H) (s : V) (es : Nat) : Option (V × H) :=
  match s with
  | .nils => some (.rs es [], h)
  | .rs es' xs => if es' = es then some (.rs es xs, h) else none
  | .sl id ver off len es' _ =>
    if es' = es then
      match h[id]? with
      | some (.cells v cs) => if v = ver then (if off + len * es ≤ cs.length then some (.rs es (chunks es len (cs.drop off)), h.set id .dead) else none) else none
      | _ => none
    else none
  | _ => none

def asInt (k : IntKind) (o : Option V) : Option Int :=
  match o with
  | some (.int k' n) => if k' = k then some n else none
  | _ => none
def asBool (o : Option V) : Option Bool :=
  match o with
  | some (.bool b) => some b
  | _ => none
def asStr (o : Option V) : Option ByteArray :=
  match o with
  | some (.str s) => some s
  | _ => none
def asFloat (k : FloatKind) (o : Option V) : Option Nat :=
  match o with
  | some (.float k' b) => if k' = k then some b else none
  | _ => none
def asCplx (k : FloatKind) (o : Option V) : Option (Nat × Nat) :=
  match o with
  | some (.cplx k' a b) => if k' = k then some (a, b) else none
  | _ => none
def asAgg (n : Nat) (o : Option V) : Option (List V) :=
  match o with
  | some (.agg cs) => if cs.length = n then some cs else none
  | _ => none
def tupAt (v : V) (i : Nat) : Option V :=
  match v with
  | .tup vs => vs[i]?
  | _ => none
def aggAt (o : Option V) (i : Nat) : Option V :=
  match o with
  | some (.agg vs) => vs[i]?
  | _ => none

mutual
def V.beq : V → V → Bool
  | .bool a, .bool b => a == b
  | .int k a, .int k' b => decide (k = k') && a == b
  | .float k a, .float k' b => decide (k = k') && a == b
  | .cplx k a c, .cplx k' b d => decide (k = k') && a == b && c == d
  | .str a, .str b => a.toList == b.toList
  | .nilp, .nilp => true
  | .ptr a b c, .ptr d e f => a == d && b == e && c == f
  | .rptr a, .rptr b => V.beqs a b
  | .nils, .nils => true
  | .sl a b c d e f, .sl a' b' c' d' e' f' => a == a' && b == b' && c == c' && d == d' && e == e' && f == f'
  | .rs a b, .rs a' b' => a == a' && V.beqs b b'
  | .nilm, .nilm => true
  | .map a, .map b => a == b
  | .nilf, .nilf => true
  | .fn a b, .fn a' b' => a == a' && V.beqs b b'
  | .fnb a b, .fnb a' b' => a == a' && V.beqs b b'
  | .agg a, .agg b => V.beqs a b
  | .tup a, .tup b => V.beqs a b
  | _, _ => false
def V.beqs : List V → List V → Bool
  | [], [] => true
  | a :: r, b :: s => V.beq a b && V.beqs r s
  | _, _ => false
end

def obeq (a b : Option V) : Bool :=
  match a, b with
  | some x, some y => x.beq y
  | none, none => true
  | _, _ => false

def keqs : List V → List V → Option Bool
  | [], [] => some true
  | .int k a :: as, .int k' b :: bs => if k = k' then (keqs as bs).bind fun y => some (a == b && y) else none
  | _, _ => none
def keq (a b : V) : Option Bool :=
  match a, b with
  | .int k a, .int k' b => if k = k' then some (a == b) else none
  | .str a, .str b => some (a == b)
  | .bool a, .bool b => some (a == b)
  | .agg a, .agg b => keqs a b
  | _, _ => none
def mlook (k : V) : List (V × V) → Option (Option V)
  | [] => some none
  | e :: r => (keq k e.1).bind fun b => if b = true then some (some e.2) else mlook k r
def midx (k : V) : List (V × V) → Option (Option Nat)
  | [] => some none
  | e :: r => (keq k e.1).bind fun b => if b = true then some (some 0) else (midx k r).bind fun q => match q with
    | some j => some (some (j + 1))
    | none => some none
def hmap (h : H) (m : V) : Option (List (V × V)) :=
  match m with
  | .nilm => some []
  | .map id => match h[id]? with
    | some (.map _ _ es) => some es
    | _ => none
  | _ => none
def hmapset (h : H) (m k v : V) : Option H :=
  match m with
  | .map id => match h[id]? with
    | some (.map c bs es) => (midx k es).bind fun q => match q with
      | some j => some (h.set id (.map c bs (es.set j (k, v))))
      | none => some (h.set id (.map (c + 1) (bs ++ [c]) (es ++ [(k, v)])))
    | _ => none
  | _ => none
def hmapdel (h : H) (m k : V) : Option H :=
  match m with
  | .nilm => some h
  | .map id => match h[id]? with
    | some (.map c bs es) => (midx k es).bind fun q => match q with
      | some j => some (h.set id (.map c (bs.eraseIdx j) (es.eraseIdx j)))
      | none => some (h.set id (.map c bs es))
    | _ => none
  | _ => none
def hentry (h : H) (m k z : V) : Option (V × Int × H) :=
  match m with
  | .map id => match h[id]? with
    | some (.map c bs es) => (midx k es).bind fun q => match q with
      | some j => match es[j]?, bs[j]? with
        | some e, some b => some (e.2, (b : Int), h.set id (.map c bs (es.set j (k, e.2))))
        | _, _ => none
      | none => some (z, (c : Int), h.set id (.map (c + 1) (bs ++ [c]) (es ++ [(k, z)])))
    | _ => none
  | _ => none
def bidx (n : Int) : List Nat → Option Nat
  | [] => none
  | b :: r => if (b : Int) = n then some 0 else (bidx n r).bind fun j => some (j + 1)
def hestore (h : H) (m : V) (n : Int) (v : V) : Option H :=
  match m with
  | .map id => match h[id]? with
    | some (.map c bs es) => (bidx n bs).bind fun j => match es[j]? with
      | some e => some (h.set id (.map c bs (es.set j (e.1, v))))
      | none => none
    | _ => none
  | _ => none
def hrange (h : H) (m : V) : Option O :=
  match m with
  | .nilm => some (.iter .nilm 0 [] 0)
  | .map id => match h[id]? with
    | some (.map c _ _) => some (.iter (.map id) c [] c)
    | _ => none
  | _ => none
def unseen (seen : List Nat) : List Nat → List (V × V) → List (Nat × V × V)
  | b :: bs, e :: es => match seen.contains b with
    | true => unseen seen bs es
    | false => (b, e) :: unseen seen bs es
  | _, _ => []
def olds (since : Nat) (l : List (Nat × V × V)) : List (Nat × V × V) := l.filter fun e => Nat.blt e.1 since
def news (since : Nat) (l : List (Nat × V × V)) : List (Nat × V × V) := l.filter fun e => !Nat.blt e.1 since
def isEmp {α : Type} (l : List α) : Bool :=
  match l with
  | [] => true
  | _ :: _ => false
def meets (since : Nat) (l : List (Nat × V × V)) : List (Option (Nat × V × V)) :=
  (match isEmp (olds since l) with
    | true => [none]
    | false => []) ++ (olds since l ++ news since l).map some
def hnexts (h : H) (it : V) : Option (List (Bool × V × V × H)) :=
  match it with
  | .ptr id 0 0 => match h[id]? with
    | some (.iter m since seen last) => match m with
      | .nilm => some [(false, .nilp, .nilp, h)]
      | .map mid => match h[mid]? with
        | some (.map c bs es) => match isEmp seen || (isEmp es || !(bs.all fun b => Nat.ble last b)) with
          | true => some ((meets since (unseen seen bs es)).map fun q => match q with
            | none => (false, .nilp, .nilp, h)
            | some e => (true, e.2.1, e.2.2, h.set id (.iter m since (seen ++ [e.1]) c)))
          | false => none
        | _ => none
      | _ => none
    | _ => none
  | _ => none
def hcur (h : H) (it : V) : Option (V × V) :=
  match it with
  | .ptr id 0 0 => match h[id]? with
    | some (.iter (.map mid) _ seen last) => match h[mid]? with
      | some (.map c bs es) => match Nat.beq c last with
        | true => match seen.getLast? with
          | some b => (bidx b bs).bind fun j => es[j]?
          | none => none
        | false => none
      | _ => none
    | _ => none
  | _ => none
def hnext (h : H) (it : V) : Option (Bool × V × V × H) :=
  (hnexts h it).bind fun l => match l with
    | [x] => some x
    | _ => none

end Go.L

namespace Go.L
noncomputable section

inductive LK where
  | int (k : IntKind)
  | bool
  | str
  | float (k : FloatKind)
  | cplx (k : FloatKind)
  | ref

inductive TY where
  | leaf (l : LK)
  | strt (ls : List LK)
  | blk (n : Nat)
  | tup (ts : List TY)
  | no

inductive X where
  | normal
  | exit (id : Nat)
  | ret
  | goto (l : Nat)

def LK.T : LK → Type
  | .int _ => Int
  | .bool => Bool
  | .str => ByteArray
  | .float _ => Nat
  | .cplx _ => Nat × Nat
  | .ref => V

def LK.toV : (l : LK) → l.T → V
  | .int k, n => .int k n
  | .bool, b => .bool b
  | .str, s => .str s
  | .float k, b => .float k b
  | .cplx k, c => .cplx k c.1 c.2
  | .ref, v => v

def asCplx' (k : FloatKind) (o : Option V) : Option (Nat × Nat) :=
  match o with
  | some (.cplx k' a b) => if k' = k then some (a, b) else none
  | _ => none

def LK.ofV : (l : LK) → V → Option l.T
  | .int k, v => asInt k (some v)
  | .bool, v => asBool (some v)
  | .str, v => asStr (some v)
  | .float k, v => asFloat k (some v)
  | .cplx k, v => asCplx' k (some v)
  | .ref, v => some v

inductive SK where
  | one (l : LK)
  | agg (ls : List LK)
  | blk
  | clo (f : FuncId) (ls : List LK)
  | lp (t off : Nat)

def TupL : List LK → Type → Type
  | [], E => E
  | l :: r, E => l.T × TupL r E

def SK.T (k : SK) (E : Type) : Type :=
  match k with
  | .one l => l.T × E
  | .agg ls => TupL ls E
  | .blk => List V × E
  | .clo _ ls => TupL ls E
  | .lp _ _ => E

def Tup : List SK → Type → Type
  | [], E => E
  | k :: r, E => k.T (Tup r E)

def encLs : (ls : List LK) → List V → {E : Type} → Option E → Option (TupL ls E)
  | [], vs, _, e => match vs with
    | [] => e
    | _ :: _ => none
  | l :: r, vs, _, e => match vs with
    | v :: vs => (l.ofV v).bind fun x => (encLs r vs e).bind fun y => some (x, y)
    | [] => none

def decLs : (ls : List LK) → {E : Type} → TupL ls E → List V × E
  | [], _, e => ([], e)
  | l :: r, _, t => (l.toV t.1 :: (decLs r t.2).1, (decLs r t.2).2)

def asCells (v : V) : Option (List V) :=
  match v with
  | .agg cs => some cs
  | _ => none

def asClo (f : FuncId) (v : V) : Option (List V) :=
  match v with
  | .fn g cs => match Nat.beq g f with
    | true => some cs
    | false => none
  | _ => none

def SK.encV : (k : SK) → V → {E : Type} → Option E → Option (k.T E)
  | .one l, v, _, e => (l.ofV v).bind fun x => e.bind fun y => some (x, y)
  | .agg ls, v, _, e => (asCells v).bind fun cs => encLs ls cs e
  | .blk, v, _, e => (asCells v).bind fun cs => e.bind fun y => some (cs, y)
  | .clo f ls, v, _, e => (asClo f v).bind fun cs => encLs ls cs e
  | .lp _ _, _, _, _ => none

def asLp (a b : Nat) (x : S) : Option Unit :=
  match x with
  | .lp a' b' => match Nat.beq a' a, Nat.beq b' b with
    | true, true => some ()
    | _, _ => none
  | _ => none

def asSv (x : S) : Option V :=
  match x with
  | .v v => some v
  | _ => none

def SK.enc : (k : SK) → S → {E : Type} → Option E → Option (k.T E)
  | .lp a b, x, _, e => (asLp a b x).bind fun _ => e
  | .one l, x, _, e => (asSv x).bind fun v => (SK.one l).encV v e
  | .agg ls, x, _, e => (asSv x).bind fun v => (SK.agg ls).encV v e
  | .blk, x, _, e => (asSv x).bind fun v => SK.blk.encV v e
  | .clo f ls, x, _, e => (asSv x).bind fun v => (SK.clo f ls).encV v e

def SK.dec : (k : SK) → {E : Type} → k.T E → S × E
  | .one l, _, t => (.v (l.toV t.1), t.2)
  | .agg ls, _, t => (.v (.agg (decLs ls t).1), (decLs ls t).2)
  | .blk, _, t => (.v (.agg t.1), t.2)
  | .clo f ls, _, t => (.v (.fn f (decLs ls t).1), (decLs ls t).2)
  | .lp a b, _, t => (.lp a b, t)

def SK.decV : (k : SK) → {E : Type} → k.T E → V × E
  | .one l, _, t => (l.toV t.1, t.2)
  | .agg ls, _, t => (.agg (decLs ls t).1, (decLs ls t).2)
  | .blk, _, t => (.agg t.1, t.2)
  | .clo f ls, _, t => (.fn f (decLs ls t).1, (decLs ls t).2)
  | .lp _ _, _, t => (.nilp, t)

def encSs : (ks : List SK) → List (Nat × S) → {E : Type} → Option E → Option (Tup ks E)
  | [], xs, _, e => match xs with
    | [] => e
    | _ :: _ => none
  | k :: r, xs, _, e => match xs with
    | x :: xs => k.enc x.2 (encSs r xs e)
    | [] => none

def decSs : (ks : List SK) → List Nat → {E : Type} → Tup ks E → List (Nat × S) × E
  | [], _, _, e => ([], e)
  | k :: r, ix, _, t => ((ix.headD 0, (k.dec t).1) :: (decSs r ix.tail (k.dec t).2).1, (decSs r ix.tail (k.dec t).2).2)

def encVs : (ks : List SK) → List V → {E : Type} → Option E → Option (Tup ks E)
  | [], xs, _, e => match xs with
    | [] => e
    | _ :: _ => none
  | k :: r, xs, _, e => match xs with
    | x :: xs => k.encV x (encVs r xs e)
    | [] => none

def decVs : (ks : List SK) → {E : Type} → Tup ks E → List V × E
  | [], _, e => ([], e)
  | k :: r, _, t => ((k.decV t).1 :: (decVs r (k.decV t).2).1, (decVs r (k.decV t).2).2)

def outR (rs : List SK) (s : Tup rs H) : V × H :=
  (match (decVs rs s).1 with
    | [v] => v
    | vs => .tup vs, (decVs rs s).2)

inductive LSp where
  | cells (ls : List LK)
  | blk

def LSp.T (k : LSp) (E : Type) : Type :=
  match k with
  | .cells ls => TupL ls E
  | .blk => List V × E

def TupV : List LSp → Type → Type
  | [], E => E
  | k :: r, E => k.T (TupV r E)

def LSp.enc : (k : LSp) → List V → {E : Type} → Option E → Option (k.T E)
  | .cells ls, cs, _, e => encLs ls cs e
  | .blk, cs, _, e => e.bind fun y => some (cs, y)

def LSp.dec : (k : LSp) → {E : Type} → k.T E → List V × E
  | .cells ls, _, t => decLs ls t
  | .blk, _, t => t

def encLl : (ks : List LSp) → List Nat → List (Nat × List V) → {E : Type} → Option E → Option (TupV ks E)
  | [], _, xs, _, e => match xs with
    | [] => e
    | _ :: _ => none
  | k :: r, ix, xs, _, e => match xs with
    | x :: xs => match ix with
      | i :: ix => match Nat.beq x.1 i with
        | true => k.enc x.2 (encLl r ix xs e)
        | false => none
      | [] => none
    | [] => none

def decLl : (ks : List LSp) → List Nat → {E : Type} → TupV ks E → List (Nat × List V) × E
  | [], _, _, e => ([], e)
  | k :: r, ix, _, t => ((ix.headD 0, (k.dec t).1) :: (decLl r ix.tail (k.dec t).2).1, (decLl r ix.tail (k.dec t).2).2)

structure Alt where
  x : X
  ix : List Nat
  ks : List SK
  lx : List Nat
  ls : List LSp

def Alt.T (a : Alt) : Type := Tup a.ks (TupV a.ls H)

def AltT : List Alt → Type
  | [] => Empty
  | [a] => a.T
  | a :: b :: r => a.T ⊕ AltT (b :: r)

structure Fun where
  S : Type
  F : List V → H → Option S
  out : S → V × H

structure PFun where
  S : Type
  F : List V → Option S
  out : S → V

inductive Cal where
  | pure (F : PFun)
  | ext (F : PFun)
  | ro (F : Fun)
  | full (F : Fun)
  | gro (F : Fun)
  | own (F : Fun)
  | dyn (F : Fun)

structure LoopA where
  head : Alt
  outs : List Alt
  L : Nat → head.T → Option (AltT outs)

structure Env where
  P : Program
  n : Nat
  lc : Nat → Bool
  fz : Nat → Bool
  lpT : Nat → Option Nat
  rl : Nat → Bool
  cal : FuncId → Option Cal
  jn : Nat → Option (List Alt)
  lp : Nat → Option LoopA
  rs : Nat → Option Nat
  dd : Nat → Bool

def collect (f : TypeId → Option (List LK)) : List TypeId → Option (List LK)
  | [] => some []
  | t :: r => (f t).bind fun a => (collect f r).bind fun b => some (a ++ b)

def leaves (P : Program) : Nat → TypeId → Option (List LK)
  | 0, _ => none
  | d + 1, t => match P.underlying t with
    | some (.int k) => some [.int k]
    | some .bool => some [.bool]
    | some .string => some [.str]
    | some (.float k) => some [.float k]
    | some (.complex k) => some [.cplx k]
    | some (.pointer _) | some (.slice _) | some (.map _ _) | some (.func ..) => some [.ref]
    | some (.struct fs) => collect (leaves P d) (fs.toList.map (·.type))
    | _ => none

def leaf1 (P : Program) (t : TypeId) (l : LK) : TY := if P.cellsOf t = 1 then .leaf l else .no

def tyOf (P : Program) : Nat → TypeId → TY
  | 0, _ => .no
  | d + 1, t => match P.underlying t with
    | some (.int k) => leaf1 P t (.int k)
    | some .bool => leaf1 P t .bool
    | some .string => leaf1 P t .str
    | some (.float k) => leaf1 P t (.float k)
    | some (.complex k) => leaf1 P t (.cplx k)
    | some (.pointer _) | some (.slice _) | some (.map _ _) | some (.func ..) => leaf1 P t .ref
    | some (.struct _) => if P.cellsOf t = 0 then .no else match leaves P 20 t with
      | some ls => if ls.length = P.cellsOf t then (if ls.length ≤ 24 then .strt ls else .blk (P.cellsOf t)) else .blk (P.cellsOf t)
      | none => .blk (P.cellsOf t)
    | some (.array _ _) => if P.cellsOf t = 0 then .no else .blk (P.cellsOf t)
    | some (.tuple ts) => .tup (ts.toList.map (tyOf P d))
    | _ => .no

def LK.dest {R : Type} (l : LK) (o : Option V) (K : V → Option R) : Option R :=
  match l with
  | .int k => (asInt k o).bind fun n => K (.int k n)
  | .bool => (asBool o).bind fun b => K (.bool b)
  | .str => (asStr o).bind fun s => K (.str s)
  | .float k => (asFloat k o).bind fun b => K (.float k b)
  | .cplx k => (asCplx k o).bind fun c => K (.cplx k c.1 c.2)
  | .ref => o.bind K

def rdLs {R : Type} : List LK → (Nat → Option V) → Nat → (List V → Option R) → Option R
  | [], _, _, K => K []
  | l :: r, get, i, K => l.dest (get i) fun v => rdLs r get (i + 1) fun vs => K (v :: vs)

def asTup (n : Nat) (o : Option V) : Option (List V) :=
  match o with
  | some (.tup vs) => if vs.length = n then some vs else none
  | _ => none

def tyDest1 {R : Type} (t : TY) (o : Option V) (K : V → Option R) : Option R :=
  match t with
  | .leaf l => l.dest o K
  | .strt ls => (asAgg ls.length o).bind fun vs => rdLs ls (fun i => vs[i]?) 0 fun cs => K (.agg cs)
  | .blk n => (asAgg n o).bind fun vs => K (.agg vs)
  | _ => none

def tupDest {R : Type} : List TY → (Nat → Option V) → Nat → (List V → Option R) → Option R
  | [], _, _, K => K []
  | t :: r, get, i, K => tyDest1 t (get i) fun v => tupDest r get (i + 1) fun vs => K (v :: vs)

def tyDest {R : Type} (t : TY) (o : Option V) (K : V → Option R) : Option R :=
  match t with
  | .tup ts => (asTup ts.length o).bind fun vs => tupDest ts (fun i => vs[i]?) 0 fun cs => K (.tup cs)
  | t => tyDest1 t o K

def cstV (v : Value) : Option V :=
  match v with
  | .int k n => some (.int k n)
  | .bool b => some (.bool b)
  | .string s => some (.str s)
  | .float k b => some (.float k b)
  | .complex k a b => some (.cplx k a b)
  | .pointer none => some .nilp
  | .slice none 0 0 => some .nils
  | .map none => some .nilm
  | .nilFunc => some .nilf
  | _ => none

def cstVs : List Value → Option (List V)
  | [] => some []
  | v :: r => (cstV v).bind fun x => (cstVs r).bind fun xs => some (x :: xs)

def cstA (v : Value) : Option V :=
  match v with
  | .agg cs => (cstVs cs.toList).map .agg
  | v => cstV v

def zeroCells (P : Program) (t : TypeId) : Option (List V) :=
  ((P.info? t).bind (·.zero)).bind fun v => cstVs v.cells.toList

def zeroLeaf (P : Program) (t : TypeId) : Option V := ((P.info? t).bind (·.zero)).bind cstV

def zeroVal (P : Program) (t : TypeId) : Option V := ((P.info? t).bind (·.zero)).bind cstA

def St.opnd (st : St) (x : Operand) : S :=
  match x with
  | .tmp t => lk st.s t
  | .const v => match cstA v with
    | some x => .v x
    | none => .bad
  | .func f => .v (.fn f [])
  | .global _ => .bad

def St.get (st : St) (p : S) (i : Nat) : Option V :=
  match p with
  | .lp t off => match lkl st.l t with
    | some cs => cs[off + i]?
    | none => none
  | .v p | .p p => rd st.h p i
  | _ => none

def St.getN (st : St) (p : S) (n : Nat) : Option (List V) :=
  match p with
  | .lp t off => match lkl st.l t with
    | some cs => if off + n ≤ cs.length then some ((cs.drop off).take n) else none
    | none => none
  | .v p | .p p => rdN st.h p n
  | _ => none

def ck1 (x : V) : Option Unit :=
  match x with
  | .agg _ | .tup _ => none
  | _ => some ()

def cellsAs {R : Type} (t : TY) (x : V) (K : List V → Option R) : Option R :=
  match t with
  | .leaf _ => (ck1 x).bind fun _ => K [x]
  | .strt ls => match x with
    | .agg cs => if cs.length = ls.length then K cs else none
    | _ => none
  | .blk n => match x with
    | .agg cs => if cs.length = n then K cs else none
    | _ => none
  | _ => none

def St.put {R : Type} (st : St) (p : S) (xs : List V) (K : List (Nat × List V) → H → Option R) : Option R :=
  match p with
  | .lp t off => match lkl st.l t with
    | some cs => if off + xs.length ≤ cs.length then K ((t, splice cs off xs) :: st.l) st.h else none
    | none => none
  | .v p | .p p => (wr st.h p xs).bind fun h => K st.l h
  | _ => none

def intBin {R : Type} (op : BinOp) (k : IntKind) (a b : Int) (K : V → Option R) : Option R :=
  match op with
  | .add => K (.int k (k.wrap (a + b)))
  | .sub => K (.int k (k.wrap (a - b)))
  | .mul => K (.int k (k.wrap (a * b)))
  | .quo => if b = 0 then none else K (.int k (k.wrap (a.tdiv b)))
  | .rem => if b = 0 then none else K (.int k (a.tmod b))
  | .eql => K (.bool (a == b))
  | .neq => K (.bool (a != b))
  | .lss => K (.bool (decide (a < b)))
  | .leq => K (.bool (decide (a ≤ b)))
  | .gtr => K (.bool (decide (a > b)))
  | .geq => K (.bool (decide (a ≥ b)))
  | .and => K (.int k (k.wrap (BitVec.ofInt k.bits a &&& BitVec.ofInt k.bits b).toNat))
  | .or => K (.int k (k.wrap (BitVec.ofInt k.bits a ||| BitVec.ofInt k.bits b).toNat))
  | .xor => K (.int k (k.wrap (BitVec.ofInt k.bits a ^^^ BitVec.ofInt k.bits b).toNat))
  | .andNot => K (.int k (k.wrap (BitVec.ofInt k.bits a &&& ~~~ (BitVec.ofInt k.bits b)).toNat))
  | _ => none

def shiftBin {R : Type} (op : BinOp) (k : IntKind) (a b : Int) (K : V → Option R) : Option R :=
  match op with
  | .shl => if b < 0 then none else K (.int k (k.wrap (a * 2 ^ (min b.toNat k.bits))))
  | .shr => if b < 0 then none else K (.int k (a.fdiv (2 ^ (min b.toNat k.bits))))
  | _ => none

def mostBytes : Nat := 4611686018427387904

def strBin {R : Type} (op : BinOp) (a b : ByteArray) (K : V → Option R) : Option R :=
  match op with
  | .add => if a.size + b.size ≤ mostBytes then K (.str (a ++ b)) else none
  | .eql => K (.bool (a.toList == b.toList))
  | .neq => K (.bool (!(a.toList == b.toList)))
  | .lss => K (.bool (Op.bytesLess a.toList b.toList))
  | .leq => K (.bool (Op.bytesLess a.toList b.toList || a.toList == b.toList))
  | .gtr => K (.bool (!(Op.bytesLess a.toList b.toList || a.toList == b.toList)))
  | .geq => K (.bool (!Op.bytesLess a.toList b.toList))
  | _ => none

def floatBin {R : Type} (op : BinOp) (k : FloatKind) (a b : Nat) (K : V → Option R) : Option R :=
  match op with
  | .eql => K (.bool (k.format.order a b == some .eq))
  | .neq => K (.bool (k.format.order a b != some .eq))
  | .lss => K (.bool (k.format.order a b == some .lt))
  | .leq => K (.bool (k.format.order a b == some .lt || k.format.order a b == some .eq))
  | .gtr => K (.bool (k.format.order a b == some .gt))
  | .geq => K (.bool (k.format.order a b == some .gt || k.format.order a b == some .eq))
  | .add => (k.format.add a b).bind fun r => K (.float k r)
  | .sub => (k.format.sub a b).bind fun r => K (.float k r)
  | .mul => (k.format.mul a b).bind fun r => K (.float k r)
  | .quo => (k.format.div a b).bind fun r => K (.float k r)
  | _ => none

def leafEq (k : LK) (a b : V) : Option Bool :=
  match k, a, b with
  | .int _, .int k a, .int k' b => if k = k' then some (a == b) else none
  | .bool, .bool a, .bool b => some (a == b)
  | .str, .str a, .str b => some (a.toList == b.toList)
  | .float _, .float k a, .float k' b => if k = k' then some (Op.floatEq k a b) else none
  | .cplx _, .cplx k a b, .cplx k' c d => if k = k' then some (Op.floatEq k a c && Op.floatEq k b d) else none
  | _, _, _ => none

def partV (P : Program) (t : TypeId) (cs : List V) (off : Nat) : Option V :=
  match P.underlying t with
  | some (.struct _) => some (.agg ((cs.drop off).take (P.cellsOf t)))
  | some (.array _ _) => none
  | some _ => cs[off]?
  | none => none

def eqFs (P : Program) (eq : TypeId → V → V → Option Bool) (xs ys : List V) : List Field → Option Bool
  | [] => some true
  | f :: fs => if f.name = "_" then none else
    (partV P f.type xs f.offset).bind fun x => (partV P f.type ys f.offset).bind fun y =>
      (eq f.type x y).bind fun r => (eqFs P eq xs ys fs).bind fun r' => some (r && r')

def eqV (P : Program) : Nat → TypeId → V → V → Option Bool
  | 0, _, _, _ => none
  | d + 1, t, x, y => match P.underlying t with
    | some (.struct fs) => match x, y with
      | .agg xs, .agg ys => if P.stoodInHeld t = true then none else eqFs P (eqV P d) xs ys fs.toList
      | _, _ => none
    | some (.int k) => leafEq (.int k) x y
    | some .bool => leafEq .bool x y
    | some .string => leafEq .str x y
    | some (.float k) => leafEq (.float k) x y
    | some (.complex k) => leafEq (.cplx k) x y
    | _ => none

def eqBin {R : Type} (neg : Bool) (r : Option Bool) (K : V → Option R) : Option R :=
  r.bind fun b => K (.bool (match neg with | true => !b | false => b))

def intsEq : List V → List V → Option Bool
  | [], [] => some true
  | .int k a :: as, .int k' b :: bs => if k = k' then (intsEq as bs).bind fun y => some (a == b && y) else none
  | _, _ => none

def nilBin {R : Type} (op : BinOp) (r : Option Bool) (K : V → Option R) : Option R :=
  match op with
  | .eql => eqBin false r K
  | .neq => eqBin true r K
  | _ => none

def aggEq (P : Program) (t : TypeId) (a b : List V) : Option Bool :=
  if P.eqGuardType P.depth t = true then none else
  match P.underlying t with
  | some (.struct _) => eqV P 100 t (.agg a) (.agg b)
  | some (.array n e) => match P.underlying e with
    | some (.int _) => if P.cellsOf e = 1 then (if a.length = n then intsEq a b else none) else none
    | _ => none
  | _ => none

def binX {R : Type} (E : Env) (op : BinOp) (t : TypeId) (x y : V) (K : V → Option R) : Option R :=
  match op, x, y with
  | .shl, .int k a, .int _ b => shiftBin .shl k a b K
  | .shr, .int k a, .int _ b => shiftBin .shr k a b K
  | op, .int k a, .int k' b => if k = k' then intBin op k a b K else none
  | op, .str a, .str b => strBin op a b K
  | op, .float k a, .float k' b => if k = k' then floatBin op k a b K else none
  | .eql, .bool a, .bool b => match E.P.underlying t with
    | some .bool => K (.bool (a == b))
    | _ => none
  | .neq, .bool a, .bool b => match E.P.underlying t with
    | some .bool => K (.bool (!(a == b)))
    | _ => none
  | .eql, .cplx k a b, .cplx k' c d => if k = k' then K (.bool (Op.floatEq k a c && Op.floatEq k b d)) else none
  | .neq, .cplx k a b, .cplx k' c d => if k = k' then K (.bool (!(Op.floatEq k a c && Op.floatEq k b d))) else none
  | .eql, .agg a, .agg b => eqBin false (aggEq E.P t a b) K
  | .neq, .agg a, .agg b => eqBin true (aggEq E.P t a b) K
  | _, _, _ => none

def binS {R : Type} (E : Env) (op : BinOp) (t : TypeId) (x y : V) (K : V → Option R) : Option R :=
  match y with
  | .nilp => match E.P.underlying t with
    | some (.pointer _) => nilBin op (isNil x) K
    | _ => none
  | .nils => match E.P.underlying t with
    | some (.slice _) => nilBin op (isNilS x) K
    | _ => none
  | .nilm => match E.P.underlying t with
    | some (.map _ _) => nilBin op (isNilM x) K
    | _ => none
  | .nilf => match E.P.underlying t with
    | some (.func ..) => nilBin op (isNilF x) K
    | _ => none
  | y => binX E op t x y K

def unS {R : Type} (op : UnOp) (x : V) (K : V → Option R) : Option R :=
  match op, x with
  | .not, .bool b => K (.bool (!b))
  | .neg, .int k n => K (.int k (k.wrap (0 - n)))
  | .neg, .float k b => K (.float k (Op.negFloat k b))
  | .xor, .int k n => K (.int k (k.wrap (BitVec.ofInt k.bits (if k.signed then -1 else k.max) ^^^ BitVec.ofInt k.bits n).toNat))
  | _, _ => none

def f2i (src : FloatKind) (b : Nat) (dst : IntKind) : Option Int :=
  match (src.decode b).toInt .zero with
  | some n => if dst.min ≤ n ∧ n ≤ dst.max then some n else none
  | none => none

def convS {R : Type} (P : Program) (src dst : TypeId) (x : V) (K : V → Option R) : Option R :=
  match P.underlying src, P.underlying dst, x with
  | some _, some (.int k), .int _ n => K (.int k (k.wrap n))
  | some _, some (.float k), .int _ n => K (.float k (k.nearest n))
  | some _, some (.int k), .float s b => (f2i s b k).bind fun n => K (.int k n)
  | some _, some .string, .str s => K (.str s)
  | _, _, _ => none

def placeOf (P : Program) (t : TypeId) (i : Nat) : Option (Nat × TypeId) :=
  match P.underlying t with
  | some (.struct fs) => (fs[i]?).map fun f => (f.offset, f.type)
  | some (.array _ e) => some (i * P.cellsOf e, e)
  | _ => none

def partsOk (P : Program) (t : TypeId) : Bool :=
  match P.underlying t with
  | some (.struct fs) => fs.toList.all fun f => decide (P.cellsOf f.type ≠ 0)
  | some (.array _ e) => decide (P.cellsOf e ≠ 0)
  | _ => false

def adrOf (x : S) : Option V :=
  match x with
  | .v p | .p p => some p
  | _ => none

def buildS {R : Type} (E : Env) (place : Nat → Option (Nat × TypeId)) (st : St) : List (Nat × Operand) → List V → (List V → Option R) → Option R
  | [], cs, K => K cs
  | (i, x) :: r, cs, K => match place i, adrOf (st.opnd x) with
    | some (off, t), some x => cellsAs (tyOf E.P 2 t) x fun xs => if off + xs.length ≤ cs.length then buildS E place st r (splice cs off xs) K else none
    | _, _ => none

def elemOf (P : Program) (t : TypeId) : Option TypeId :=
  match P.underlying t with
  | some (.slice e) => some e
  | _ => none

def optInt (st : St) (o : Option Operand) (d : Int) : Option Int :=
  match o with
  | none => some d
  | some x => match st.opnd x with
    | .v (.int _ n) => some n
    | _ => none

def repeatC : Nat → List V → List V
  | 0, _ => []
  | n + 1, z => z ++ repeatC n z

def strSub {R : Type} (s : ByteArray) (lo hi : Int) (K : V → Option R) : Option R :=
  if 0 ≤ lo then (if lo ≤ hi then (if hi ≤ s.size then K (.str (s.extract lo.toNat hi.toNat)) else none) else none) else none

def argVs (st : St) : List Operand → Option (List V)
  | [] => some []
  | x :: r => match st.opnd x with
    | .v v => (argVs st r).bind fun vs => some (v :: vs)
    | _ => none

def argsK {R : Type} (st : St) : List Operand → (List V → Option R) → Option R
  | [], K => K []
  | x :: r, K => match st.opnd x with
    | .v v => argsK st r fun vs => K (v :: vs)
    | .p v => argsK st r fun vs => K (v :: vs)
    | _ => none

def intFields (P : Program) : Nat → List Field → Bool
  | _, [] => true
  | i, f :: r => !(f.name == "_") && (Nat.beq f.offset i && ((match P.underlying f.type with
    | some (.int _) => true
    | _ => false) && intFields P (i + 1) r))

def allInts : List V → Bool
  | [] => true
  | .int _ _ :: r => allInts r
  | _ => false

def keyOk (P : Program) (t : TypeId) (k : V) : Bool :=
  match P.underlying t, k with
  | some (.int k'), .int k _ => decide (k = k')
  | some .string, .str _ => true
  | some .bool, .bool _ => true
  | some (.struct fs), .agg cs => !(P.stoodInHeld t) && (intFields P 0 fs.toList && (allInts cs && Nat.beq cs.length fs.toList.length))
  | _, _ => false

def min2 {R : Type} (isMax : Bool) (x y : V) (K : V → Option R) : Option R :=
  match x, y with
  | .int k a, .int k' b => if k = k' then (match isMax with | false => K (.int k (if b < a then b else a)) | true => K (.int k (if b > a then b else a))) else none
  | _, _ => none

def lpOk (E : Env) (d : Nat) (x : S) : Bool :=
  match x with
  | .lp t _ => match E.lpT d with
    | some t' => Nat.beq t t'
    | none => false
  | .bad => true
  | .un => true
  | _ => match E.lpT d with
    | some _ => false
    | none => true

def fin {R : Type} (E : Env) (o : Oper) (st : St) (K : St → Option R) (x : S) (l : List (Nat × List V)) (h : H) : Option R :=
  match o.dst with
  | none => K ⟨st.s, l, h⟩
  | some d => match Nat.blt d E.n with
    | true => match lpOk E d x with
      | true => K ⟨(d, x) :: st.s, l, h⟩
      | false => K ⟨(d, .bad) :: st.s, l, h⟩
    | false => none

def ownOf (E : Env) (o : Oper) : Bool :=
  match o.dst with
  | some d => E.lc d
  | none => false

def fzOf (E : Env) (o : Oper) : Bool :=
  match o.dst with
  | some d => E.fz d
  | none => false

def strV : Nat := 1000000000

def rsOf (E : Env) (o : Oper) : Option Nat :=
  match o.dst with
  | some d => E.rs d
  | none => none

def finV {R : Type} (E : Env) (o : Oper) (st : St) (K : St → Option R) (v : V) : Option R := fin E o st K (.v v) st.l st.h

def finF {R : Type} (E : Env) (o : Oper) (st : St) (K : St → Option R) (es : Nat) (v : V) (h : H) : Option R :=
  match fzOf E o with
  | true => (hfreeze h v es).bind fun r => fin E o st K (.v r.1) st.l r.2
  | false => fin E o st K (.v v) st.l h

def strConv (P : Program) (src dst : TypeId) : Option Bool :=
  match P.underlying src, P.underlying dst with
  | some (.slice e), some .string => match P.underlying e, Nat.beq (P.cellsOf e) 1 with
    | some (.int .u8), true => some false
    | _, _ => none
  | some (.slice _), some (.slice e) => match P.underlying e, Nat.beq src dst with
    | some (.int .u8), true => some true
    | _, _ => none
  | _, _ => none

def bytesV (s : ByteArray) : List V := s.data.toList.map fun b => .int .u8 b.toNat

def bytesOfV : List V → Option (List UInt8)
  | [] => some []
  | .int .u8 n :: r => (bytesOfV r).bind fun x => some (UInt8.ofNat n.toNat :: x)
  | _ => none

def strOfV (cs : List V) : Option ByteArray := (bytesOfV cs).map fun l => ⟨l.toArray⟩

def markS (h : H) (x : V) : Option (V × H) :=
  match x with
  | .sl id ver off len es cap => if 0 < len then (match h[id]? with
    | some (.cells v cs) => if v = ver ∧ v < strV then some (.sl id (ver + 1 + strV) off len es cap, h.set id (.cells (v + 1 + strV) cs)) else none
    | _ => none) else none
  | _ => none

def hwrAll (h : H) (s : V) (es : Nat) (cs : List V) : Option H :=
  match s with
  | .sl id ver off len es' _ => if es' = es then (if cs.length ≤ len * es then (match cs with
    | [] => some h
    | c :: cs => wr h (.ptr id ver off) (c :: cs)) else none) else none
  | .nils => match cs with
    | [] => some h
    | _ :: _ => none
  | _ => none

def scapK (s : V) : Option Int :=
  match s with
  | .nils => some 0
  | .sl _ _ _ _ _ (some c) => some c
  | _ => none

def evBuiltin {R : Type} (E : Env) (o : Oper) (b : Builtin) (argTypes : Array TypeId) (args : List V) (st : St) (K : St → Option R) : Option R :=
  match b, args with
  | .len, [x] => match (argTypes[0]?).bind E.P.underlying with
      | some .string => match x with
        | .str s => finV E o st K (.int .i64 s.size)
        | _ => none
      | some (.slice _) => (slen x).bind fun n => finV E o st K (.int .i64 n)
      | some (.array n _) => finV E o st K (.int .i64 n)
      | some (.map _ _) => (hmap st.h x).bind fun es => finV E o st K (.int .i64 es.length)
      | _ => none
  | .append, [s, x] => match ((argTypes[0]?).bind (elemOf E.P)), (argTypes[1]?).bind E.P.underlying with
    | some e, some (.slice e') =>
      if E.P.cellsOf e = E.P.cellsOf e' then (if E.P.cellsOf e = 0 then none else
        if E.P.bytesOf e ≤ E.P.cellsOf e * 64 then
        if (zeroCells E.P e).map List.length = some (E.P.cellsOf e) then
        (scells st.h x (E.P.cellsOf e)).bind fun cs => (happ st.h s (E.P.cellsOf e) (snlen x) cs).bind fun r => finF E o st K (E.P.cellsOf e) r.1 r.2 else none else none) else none
    | some e, some .string => match x with
      | .str t => if E.P.cellsOf e = 1 then (if E.P.bytesOf e ≤ 64 then (if (zeroCells E.P e).map List.length = some 1 then
          (happ st.h s 1 t.size (bytesV t)).bind fun r => finF E o st K 1 r.1 r.2 else none) else none) else none
      | _ => none
    | _, _ => none
  | .delete, [m, key] => match (argTypes[0]?).bind E.P.underlying with
    | some (.map kt _) => if keyOk E.P kt key then (hmapdel st.h m key).bind fun h => fin E o st K (.v (.tup [])) st.l h else none
    | _ => none
  | .clear, [s] => match (argTypes[0]?).bind (elemOf E.P) with
    | some e => if E.P.cellsOf e = 0 then none else (zeroCells E.P e).bind fun z => if z.length = E.P.cellsOf e then
        (hwrAll st.h s (E.P.cellsOf e) (repeatC (snlen s) z)).bind fun h => fin E o st K (.v (.tup [])) st.l h else none
    | none => none
  | .copy, [d, s] => match (argTypes[0]?).bind (elemOf E.P) with
    | some e => if E.P.cellsOf e = 0 then none else (scells st.h s (E.P.cellsOf e)).bind fun cs => if snlen s ≤ snlen d then
        (hwrAll st.h d (E.P.cellsOf e) cs).bind fun h => fin E o st K (.v (.int .i64 (snlen s))) st.l h else none
    | none => none
  | .cap, [s] => match (argTypes[0]?).bind (elemOf E.P) with
    | some _ => (scapK s).bind fun n => finV E o st K (.int .i64 n)
    | none => none
  | .min, [x, y] => min2 false x y fun v => finV E o st K v
  | .max, [x, y] => min2 true x y fun v => finV E o st K v
  | .real, [.cplx fk a _] => finV E o st K (.float fk a)
  | .imag, [.cplx fk _ b] => finV E o st K (.float fk b)
  | .complex, [.float fk a, .float fk' b] => if fk = fk' then finV E o st K (.cplx fk a b) else none
  | _, _ => none

def ptrCmp (P : Program) (t : TypeId) (x y : Operand) : Bool :=
  match x, y with
  | .tmp _, .tmp _ => match P.underlying t with
    | some (.pointer e) => !(Nat.beq (P.cellsOf e) 0)
    | _ => false
  | _, _ => false

def ptrEq (h : H) (x y : V) : Option Bool :=
  match x, y with
  | .nilp, .nilp => some true
  | .nilp, .ptr .. => some false
  | .ptr .., .nilp => some false
  | .nilp, .rptr _ => some false
  | .rptr _, .nilp => some false
  | .ptr i v o, .ptr j v' o' => match h[i]?, h[j]? with
    | some (.cells u _), some (.cells u' _) => if v = u ∧ u < strV then (if v' = u' ∧ u' < strV then some (Nat.beq i j && Nat.beq o o') else none) else none
    | _, _ => none
  | _, _ => none

def rlOf (E : Env) (o : Oper) : Bool :=
  match o.dst with
  | some d => E.rl d
  | none => false

def rdRo (p : V) (i : Nat) : Option V :=
  match p with
  | .rptr cs => cs[i]?
  | _ => none

def plOf (x : S) : Option V :=
  match x with
  | .v p | .p p => some p
  | _ => none

def callK {R : Type} (E : Env) (o : Oper) (st : St) (K : St → Option R) (f : FuncId) (vs : List V) : Option R :=
  match E.cal f with
  | some (.pure F) | some (.ext F) => (F.F vs).bind fun s => tyDest (tyOf E.P 3 o.type) (some (F.out s)) fun v => fin E o st K (.v v) st.l st.h
  | some (.ro F) => (F.F vs st.h).bind fun s => tyDest (tyOf E.P 3 o.type) (some (F.out s).1) fun v => fin E o st K (.v v) st.l st.h
  | some (.full F) | some (.gro F) | some (.own F) => (F.F vs st.h).bind fun s => tyDest (tyOf E.P 3 o.type) (some (F.out s).1) fun v =>
    match fzOf E o, elemOf E.P o.type with
    | true, some e => if E.P.cellsOf e ≠ 0 then finF E o st K (E.P.cellsOf e) v (F.out s).2 else none
    | true, none => none
    | false, _ => fin E o st K (.v v) st.l (F.out s).2
  | _ => none

def dkey (o : Oper) : Nat :=
  match o.dst with
  | some d => 16777216 + d
  | none => 16777215

def evOp {R : Type} (E : Env) (o : Oper) (st : St) (K : St → Option R) : Option R :=
  match o.op with
  | .move x | .assign x => fin E o st K (st.opnd x) st.l st.h
  | .pick c a b => match st.opnd c with
    | .v (.bool t) => match st.opnd a, st.opnd b with
      | .v (.bool p), .v (.bool q) => finV E o st K (.bool (if t = true then p else q))
      | p, q => fin E o st K (if t = true then p else q) st.l st.h
    | _ => none
  | .alloc t => (zeroCells E.P t).bind fun cs =>
    match ownOf E o, o.dst with
    | true, some d => match lkl st.l d with
      | none => fin E o st K (.lp d 0) ((d, cs) :: st.l) st.h
      | some _ => none
    | _, _ => fin E o st K (.v (.ptr st.h.length 0 0)) st.l (st.h ++ [.cells 0 cs])
  | .box t x => match st.opnd x with
    | .v x => cellsAs (tyOf E.P 2 t) x fun cs =>
      match ownOf E o, o.dst with
      | true, some d => match lkl st.l d with
        | none => fin E o st K (.lp d 0) ((d, cs) :: st.l) st.h
        | some _ => none
      | _, _ => fin E o st K (.v (.ptr st.h.length 0 0)) st.l (st.h ++ [.cells 0 cs])
    | _ => none
  | .build t parts => if partsOk E.P t = true then (zeroCells E.P t).bind fun cs => buildS E (placeOf E.P t) st parts.toList cs fun cs => finV E o st K (.agg cs) else none
  | .buildSlice t len parts => (elemOf E.P t).bind fun e => (zeroCells E.P e).bind fun z =>
    if len * E.P.cellsOf e ≤ 2 ^ 24 then (if E.P.cellsOf e = 0 then none else if z.length = E.P.cellsOf e then
    buildS E (fun i => some (i * E.P.cellsOf e, e)) st parts.toList (repeatC len z) fun cs =>
      match ownOf E o with
      | true => finV E o st K (.rs (E.P.cellsOf e) (chunks (E.P.cellsOf e) len cs))
      | false => fin E o st K (.v (.sl st.h.length 0 0 len (E.P.cellsOf e) (some len))) st.l (st.h ++ [.cells 0 cs]) else none) else none
  | .load t a => match rlOf E o with
    | false => match tyOf E.P 2 t with
      | .leaf l => l.dest (st.get (st.opnd a) 0) (finV E o st K)
      | .strt ls => rdLs ls (st.get (st.opnd a)) 0 fun cs => finV E o st K (.agg cs)
      | .blk n => (st.getN (st.opnd a) n).bind fun cs => finV E o st K (.agg cs)
      | _ => none
    | true => match plOf (st.opnd a) with
      | some p => match tyOf E.P 2 t with
        | .leaf l => l.dest (rdRo p 0) (finV E o st K)
        | .strt ls => rdLs ls (rdRo p) 0 fun cs => finV E o st K (.agg cs)
        | _ => none
      | none => none
  | .store t a x => match st.opnd x with
    | .v x => cellsAs (tyOf E.P 2 t) x fun xs => st.put (st.opnd a) xs fun l h => fin E o st K .bad l h
    | _ => none
  | .nilCheck x => match st.opnd x with
    | .lp t off => fin E o st K (.lp t off) st.l st.h
    | .v p => (nck p).bind fun _ => fin E o st K (.p p) st.l st.h
    | .p p => fin E o st K (.p p) st.l st.h
    | _ => none
  | .binOp op t x y _ => match ptrCmp E.P t x y with
    | true => match adrOf (st.opnd x), adrOf (st.opnd y) with
      | some p, some q => nilBin op (ptrEq st.h p q) (finV E o st K)
      | _, _ => none
    | false => match st.opnd x, st.opnd y with
      | .v x, .v y => binS E op t x y (finV E o st K)
      | _, _ => none
  | .unOp op _ x => match st.opnd x with
    | .v x => unS op x (finV E o st K)
    | _ => none
  | .convert src dst x => match strConv E.P src dst with
    | none => match st.opnd x with
      | .v x => convS E.P src dst x (finV E o st K)
      | _ => none
    | some false => match st.opnd x with
      | .v x => (scells st.h x 1).bind fun cs => (strOfV cs).bind fun s => finV E o st K (.str s)
      | _ => none
    | some true => match st.opnd x with
      | .v x => (markS st.h x).bind fun r => fin E o st K (.v r.1) st.l r.2
      | _ => none
  | .makeFunc (.func f) first cap => match first.toList with
    | [] => argsK st cap.toList fun vs => finV E o st K (.fn f vs)
    | fs => match cap.toList with
      | [] => argsK st fs fun vs => finV E o st K (.fnb f vs)
      | _ => none
  | .makeMap _ none => fin E o st K (.v (.map st.h.length)) st.l (st.h ++ [.map 0 [] []])
  | .makeSlice t l c => match st.opnd l, st.opnd c, elemOf E.P t with
    | .v (.int .i64 l), .v (.int .i64 c), some e => (zeroCells E.P e).bind fun z =>
      if E.P.cellsOf e = 0 then none else
      if z.length = E.P.cellsOf e then
      if E.P.bytesOf e ≤ E.P.cellsOf e * 64 then
      (if 0 ≤ l then (if l ≤ c then (if c * E.P.cellsOf e ≤ mostCells then
        (match fzOf E o with
        | true => if l = c then finV E o st K (.rs (E.P.cellsOf e) (List.replicate l.toNat (if E.P.cellsOf e = 1 then z.headD default else .agg z))) else none
        | false => match rsOf E o with
          | none => fin E o st K (.v (.sl st.h.length 0 0 l.toNat (E.P.cellsOf e) (some c.toNat))) st.l (st.h ++ [.cells 0 (repeatC c.toNat z)])
          | some d => (hfill st.h d (repeatC c.toNat z)).bind fun h => fin E o st K (.v (.sl (st.h.length - d) 1 0 l.toNat (E.P.cellsOf e) (some c.toNat))) st.l h) else none) else none) else none) else none else none
    | _, _, _ => none
  | .slice t x lo hi mx => match elemOf E.P t with
    | some e => if E.P.cellsOf e = 0 then none else match st.opnd x with
      | .v x => (slen x).bind fun n => (optInt st lo 0).bind fun l => (optInt st hi n).bind fun u =>
          match mx with
          | none => (ssl (E.P.cellsOf e) x l u).bind fun v => finV E o st K v
          | some m => match hi with
            | none => none
            | some _ => (optInt st (some m) 0).bind fun m => (ssl3 (E.P.cellsOf e) x l u m).bind fun v => finV E o st K v
      | _ => none
    | none => match st.opnd x with
      | .v (.str s) => match mx with
        | none => match E.P.underlying t with
          | some .string => (optInt st lo 0).bind fun l => (optInt st hi s.size).bind fun u => strSub s l u (finV E o st K)
          | _ => none
        | some _ => none
      | _ => none
  | .fieldAddr t x i => match E.P.underlying t with
    | some (.struct fs) => match fs[i]? with
      | some f => if E.P.cellsOf f.type = 0 then none else match st.opnd x with
        | .lp t off => fin E o st K (.lp t (off + f.offset)) st.l st.h
        | .v p => (nck p).bind fun _ => fin E o st K (.p (padd p f.offset)) st.l st.h
        | .p p => fin E o st K (.p (padd p f.offset)) st.l st.h
        | _ => none
      | none => none
    | _ => none
  | .field t x i => match st.opnd x, placeOf E.P t i with
    | .v (.agg cs), some (off, ft) => match E.P.underlying t with
      | some (.struct _) => match tyOf E.P 2 ft with
        | .leaf l => l.dest cs[off]? (finV E o st K)
        | .strt ls => if off + ls.length ≤ cs.length then rdLs ls (fun j => cs[off + j]?) 0 fun cs => finV E o st K (.agg cs) else none
        | .blk n => if off + n ≤ cs.length then finV E o st K (.agg ((cs.drop off).take n)) else none
        | _ => none
      | _ => none
    | _, _ => none
  | .indexAddr t x i => match st.opnd i with
    | .v (.int _ i) => match E.P.underlying t with
      | some (.array n e) => match st.opnd x with
        | .lp t off => if 0 ≤ i then (if i < n then (if E.P.cellsOf e ≠ 0 then fin E o st K (.lp t (off + i.toNat * E.P.cellsOf e)) st.l st.h else none) else none) else none
        | .v p => (nck p).bind fun _ => (aidx p i n (E.P.cellsOf e)).bind fun q => fin E o st K (.p q) st.l st.h
        | .p p => (aidx p i n (E.P.cellsOf e)).bind fun q => fin E o st K (.p q) st.l st.h
        | _ => none
      | some (.slice e) => if E.P.cellsOf e = 0 then none else match st.opnd x with
        | .v s => (sidx s i (E.P.cellsOf e)).bind fun q => fin E o st K (.p q) st.l st.h
        | _ => none
      | _ => none
    | _ => none
  | .index t x i => match st.opnd x, st.opnd i with
    | .v (.agg cs), .v (.int _ i) => match E.P.underlying t with
      | some (.array n e) => if 0 ≤ i then (if i < n then (if E.P.cellsOf e ≠ 0 then
          (match tyOf E.P 2 e with
          | .leaf l => l.dest cs[i.toNat * E.P.cellsOf e]? (finV E o st K)
          | .strt ls => if i.toNat * E.P.cellsOf e + ls.length ≤ cs.length then rdLs ls (fun j => cs[i.toNat * E.P.cellsOf e + j]?) 0 fun cs => finV E o st K (.agg cs) else none
          | .blk m => if i.toNat * E.P.cellsOf e + m ≤ cs.length then finV E o st K (.agg ((cs.drop (i.toNat * E.P.cellsOf e)).take m)) else none
          | _ => none) else none) else none) else none
      | _ => none
    | .v (.str s), .v (.int _ i) => match E.P.underlying t with
      | some .string => if 0 ≤ i then (s[i.toNat]?).bind fun b => finV E o st K (.int .u8 b.toNat) else none
      | _ => none
    | _, _ => none
  | .lookup t x i ok => match st.opnd x, st.opnd i, E.P.underlying t with
    | .v m, .v key, some (.map kt et) => if keyOk E.P kt key then (hmap st.h m).bind fun es => (mlook key es).bind fun q => (zeroVal E.P et).bind fun z =>
        tyDest1 (tyOf E.P 2 et) (some (q.getD z)) fun v => match ok with
          | true => finV E o st K (.tup [v, .bool q.isSome])
          | false => finV E o st K v
      else none
    | _, _, _ => none
  | .mapUpdate t m key x => match st.opnd m, st.opnd key, st.opnd x, E.P.underlying t with
    | .v m, .v key, .v x, some (.map kt et) => if keyOk E.P kt key then (match tyOf E.P 2 et with
        | .leaf _ | .strt _ => (hmapset st.h m key x).bind fun h => fin E o st K .bad st.l h
        | _ => none) else none
    | _, _, _, _ => none
  | .mapEntry t m key => match st.opnd m, st.opnd key, E.P.underlying t with
    | .v m, .v key, some (.map kt et) => if keyOk E.P kt key then (match tyOf E.P 2 et with
        | .leaf _ | .strt _ => (zeroVal E.P et).bind fun z => (hentry st.h m key z).bind fun r => tyDest1 (tyOf E.P 2 et) (some r.1) fun v => fin E o st K (.v (.tup [v, .int .i64 r.2.1])) st.l r.2.2
        | _ => none) else none
    | _, _, _ => none
  | .entryStore _ m s x => match st.opnd m, st.opnd s, st.opnd x with
    | .v m, .v (.int _ n), .v x => (hestore st.h m n x).bind fun h => fin E o st K .bad st.l h
    | _, _, _ => none
  | .range t x => match st.opnd x, E.P.underlying t with
    | .v m, some (.map _ _) => (hrange st.h m).bind fun ob => fin E o st K (.v (.ptr st.h.length 0 0)) st.l (st.h ++ [ob])
    | _, _ => none
  | .next it false => match st.opnd it with
    | .v p => (hnext st.h p).bind fun r => if r.1 = true then fin E o st K (.v (.tup [.bool true, r.2.1, r.2.2.1])) st.l r.2.2.2
      else fin E o st K (.v (.tup [.bool false])) st.l r.2.2.2
    | _ => none
  | .entry it => match st.opnd it, (rsOf E o).bind E.P.underlying with
    | .v p, some (.map kt et) => (hcur st.h p).bind fun e => tyDest1 (tyOf E.P 2 kt) (some e.1) fun k => tyDest1 (tyOf E.P 2 et) (some e.2) fun v => finV E o st K (.tup [k, v])
    | _, _ => none
  | .extract x i => match st.opnd x with
    | .v (.tup vs) => match vs[i]? with
      | some v => finV E o st K v
      | none => none
    | _ => none
  | .call c => match c.callee with
    | .value (.func f) => argsK st c.args.toList fun vs => callK E o st K f vs
    | .value (.tmp t) => match E.cal (dkey o) with
      | some (.dyn F) => match lk st.s t with
        | .v x => argsK st c.args.toList fun vs => (F.F (x :: vs) st.h).bind fun s => tyDest (tyOf E.P 3 o.type) (some (F.out s).1) fun v => fin E o st K (.v v) st.l (F.out s).2
        | _ => none
      | _ => match lk st.s t with
        | .v (.fn f cap) => argsK st c.args.toList fun vs => callK E o st K f (vs ++ cap)
        | _ => none
    | .builtin b => argsK st c.args.toList fun vs => evBuiltin E o b c.argTypes vs st K
    | _ => none
  | _ => none

def dstOf (ops : Array Oper) (j : Nat) : Option Nat := (ops[j]?).bind (·.dst)

def inGroup (j : Nat) (o : Oper) : Bool :=
  match o.guard with
  | some (i, _) => Nat.ble j i
  | none => false

def quietL (E : Env) (o : Oper) : Bool :=
  match o.op with
  | .store .. => false
  | .alloc _ | .box .. => !ownOf E o
  | _ => true

def clr : List Oper → List (Nat × S) → List (Nat × S)
  | [], s => s
  | o :: r, s => match o.dst with
    | some d => (d, .bad) :: clr r s
    | none => clr r s

def groupFin (d : Nat) (st : St) : Option (Bool × H) :=
  match lk st.s d with
  | .v (.bool r) => some (r, st.h)
  | _ => none

def evOps {R : Type} (E : Env) (ops : Array Oper) : Nat → List Nat → List Oper → St → (St → Option R) → Option R
  | _, _, [], st, K => K st
  | 0, _, _ :: _, _, _ => none
  | n + 1, asm, o :: rest, st, K =>
    match o.guard with
    | none => evOp E o st fun st => evOps E ops n asm rest st K
    | some (j, want) =>
      match dstOf ops j with
      | none => none
      | some cj =>
        match asm.contains j with
        | true =>
          match lk st.s cj, want with
          | .v (.bool true), true => evOp E o st fun st => evOps E ops n asm rest st K
          | .v (.bool false), false => evOp E o st fun st => evOps E ops n asm rest st K
          | .v (.bool true), false => fin E o st (fun st => evOps E ops n asm rest st K) .un st.l st.h
          | .v (.bool false), true => fin E o st (fun st => evOps E ops n asm rest st K) .un st.l st.h
          | .un, _ => fin E o st (fun st => evOps E ops n asm rest st K) .un st.l st.h
          | _, _ => none
        | false =>
          match lk st.s cj with
          | .v (.bool b) =>
            match (o :: rest).dropWhile (inGroup j) with
            | p :: rest2 =>
              match p.dst with
              | none => none
              | some d =>
                match ((o :: rest).takeWhile (inGroup j) ++ [p]).all (quietL E) with
                | false => none
                | true =>
                  (if b = true then evOps E ops n (j :: asm) ((o :: rest).takeWhile (inGroup j) ++ [p]) ⟨(cj, .v (.bool true)) :: st.s, st.l, st.h⟩ (groupFin d)
                    else evOps E ops n (j :: asm) ((o :: rest).takeWhile (inGroup j) ++ [p]) ⟨(cj, .v (.bool false)) :: st.s, st.l, st.h⟩ (groupFin d)).bind fun r =>
                    evOps E ops n asm rest2 ⟨(d, .v (.bool r.1)) :: clr ((o :: rest).takeWhile (inGroup j)) st.s, st.l, r.2⟩ K
            | [] => none
          | .un => fin E o st (fun st => evOps E ops n asm rest st K) .un st.l st.h
          | _ => none

def lid : Code → Nat
  | .region id _ _ => id
  | .seq a _ => lid a
  | .block _ c => lid c
  | .loop c => lid c
  | .cond _ a _ => lid a
  | _ => 0

def keepS (l : List (Nat × List V)) (x : S) : S :=
  match x with
  | .lp t off => match lkl l t with
    | some _ => .lp t off
    | none => .bad
  | .p x => .v x
  | x => x

def normS (l : List (Nat × List V)) (s : List (Nat × S)) : List Nat → List (Nat × S)
  | [] => []
  | i :: r => (i, keepS l (lk s i)) :: normS l s r

def normL (l : List (Nat × List V)) : List Nat → List (Nat × List V)
  | [] => []
  | i :: r => match lkl l i with
    | some cs => (i, cs) :: normL l r
    | none => normL l r

def St.norm (st : St) (o : Option (List Nat × List Nat)) : St :=
  match o with
  | some (ls, ll) => ⟨normS (normL st.l ll) st.s ls, normL st.l ll, st.h⟩
  | none => st

def resVs {R : Type} (E : Env) (st : St) : List ResultVar → (List V → Option R) → Option R
  | [], K => K []
  | .tmp t :: r, K => match lk st.s t with
    | .v x => resVs E st r fun xs => K (x :: xs)
    | .p x => resVs E st r fun xs => K (x :: xs)
    | _ => none
  | .cell a t :: r, K => match tyOf E.P 2 t with
    | .leaf l => l.dest (st.get (lk st.s a) 0) fun x => resVs E st r fun xs => K (x :: xs)
    | .strt ls => rdLs ls (st.get (lk st.s a)) 0 fun cs => resVs E st r fun xs => K (.agg cs :: xs)
    | .blk n => (st.getN (lk st.s a) n).bind fun cs => resVs E st r fun xs => K (.agg cs :: xs)
    | _ => none

def resV (E : Env) (fn : Func) (st : St) : Option (V × H) :=
  resVs E st fn.results.toList fun vs => match vs with
    | [v] => some (v, st.h)
    | vs => some (.tup vs, st.h)

def argSlots : Nat → List V → List (Nat × S)
  | _, [] => []
  | i, v :: r => (i, .v v) :: argSlots (i + 1) r

end
end Go.L

namespace Go.L
noncomputable section

structure Img where
  blk : Nat
  base : Nat
  size : Nat

structure Ren where
  n : Nat
  vers : Nat → Nat
  wr : Nat → Option Img
  ro : Nat → Option Obj

inductive RelV (ρ : Ren) : V → Value → Prop where
  | bool (b : Bool) : RelV ρ (.bool b) (.bool b)
  | int (k : IntKind) (n : Int) : RelV ρ (.int k n) (.int k n)
  | float (k : FloatKind) (b : Nat) : RelV ρ (.float k b) (.float k b)
  | cplx (k : FloatKind) (a b : Nat) : RelV ρ (.cplx k a b) (.complex k a b)
  | str (s : ByteArray) : RelV ρ (.str s) (.string s)
  | nilp : RelV ρ .nilp (.pointer none)
  | ptr (id ver off : Nat) (a : Addr) (h1 : id < ρ.n) (h2 : ver ≤ ρ.vers id)
      (h3 : ∀ g, ver = ρ.vers id → ρ.wr id = some g → a = ⟨g.blk, g.base + off, none⟩) : RelV ρ (.ptr id ver off) (.pointer (some a))
  | rptr (cs : List V) (b off : Nat) (c : Array Value) (e : TypeId) (fr : Nat × Nat) (h1 : ρ.ro b = some (.cells c e fr)) (h2 : ∀ i, i < cs.length → off + i < c.size)
      (h3 : ∀ (i : Nat) (v : V) (x : Value), cs[i]? = some v → c[off + i]? = some x → RelV ρ v x)
      (h4 : ∀ (i : Nat) (x : Value), i < cs.length → c[off + i]? = some x → x.oneCell' = true) : RelV ρ (.rptr cs) (.pointer (some ⟨b, off, none⟩))
  | nils : RelV ρ .nils (.slice none 0 0)
  | sl (id ver off len es : Nat) (cap : Option Nat) (a : Addr) (rc : Nat) (h1 : id < ρ.n) (h2 : ver ≤ ρ.vers id) (h3 : len ≤ rc) (h4 : ∀ c, cap = some c → rc = c)
      (h5 : ∀ g, ver = ρ.vers id → ρ.wr id = some g → 0 < rc → a = ⟨g.blk, g.base + off, none⟩ ∧ off + rc * es ≤ g.size) :
      RelV ρ (.sl id ver off len es cap) (.slice (some a) len rc)
  | rs0 (es : Nat) (a : Option Addr) (rc : Nat) (h : a = none → rc = 0) : RelV ρ (.rs es []) (.slice a 0 rc)
  | rs (es : Nat) (xs : List V) (b off : Nat) (c : Array Value) (e : TypeId) (fr : Nat × Nat) (rc : Nat) (h0 : xs.length ≤ rc) (h1 : ρ.ro b = some (.cells c e fr))
      (h2 : off + xs.length * es ≤ c.size) (h3 : ∀ v ∈ xs, v.cells.length = es)
      (h4 : ∀ (i : Nat) (v : V) (j : Nat) (y : V) (x : Value), xs[i]? = some v → v.cells[j]? = some y → c[off + i * es + j]? = some x → RelV ρ y x)
      (h5 : ∀ (i : Nat) (x : Value), i < xs.length * es → c[off + i]? = some x → x.oneCell' = true) :
      RelV ρ (.rs es xs) (.slice (some ⟨b, off, none⟩) xs.length rc)
  | nilm : RelV ρ .nilm (.map none)
  | map (id r : Nat) (h1 : id < ρ.n) (h2 : ∀ g, ρ.vers id = 0 → ρ.wr id = some g → r = g.blk) : RelV ρ (.map id) (.map (some r))
  | nilf : RelV ρ .nilf .nilFunc
  | fn (f : FuncId) (cs : List V) (xs : Array Value) (h1 : xs.size = cs.length) (h2 : ∀ (i : Nat) (v : V) (x : Value), cs[i]? = some v → xs[i]? = some x → RelV ρ v x) :
      RelV ρ (.fn f cs) (.func (.func f) #[] xs)
  | fnb (f : FuncId) (cs : List V) (xs : Array Value) (h1 : xs.size = cs.length) (h2 : ∀ (i : Nat) (v : V) (x : Value), cs[i]? = some v → xs[i]? = some x → RelV ρ v x) :
      RelV ρ (.fnb f cs) (.func (.func f) xs #[])
  | agg (cs : List V) (xs : Array Value) (h1 : xs.size = cs.length) (h2 : ∀ (i : Nat) (v : V) (x : Value), cs[i]? = some v → xs[i]? = some x → RelV ρ v x)
      (h3 : ∀ (i : Nat) (x : Value), xs[i]? = some x → x.oneCell' = true) : RelV ρ (.agg cs) (.agg xs)
  | tup (cs : List V) (xs : Array Value) (h1 : xs.size = cs.length) (h2 : ∀ (i : Nat) (v : V) (x : Value), cs[i]? = some v → xs[i]? = some x → RelV ρ v x) :
      RelV ρ (.tup cs) (.tuple xs)

structure Le (ρ ρ' : Ren) : Prop where
  n : ρ.n ≤ ρ'.n
  vers : ∀ id, id < ρ.n → ρ.vers id ≤ ρ'.vers id
  wr : ∀ id, id < ρ.n → ρ'.vers id = ρ.vers id → ∀ g, ρ'.wr id = some g → ρ.wr id = some g
  ro : ∀ b o, ρ.ro b = some o → ρ'.ro b = some o

theorem Le.refl (ρ : Ren) : Le ρ ρ := ⟨Nat.le_refl _, fun _ _ => Nat.le_refl _, fun _ _ _ _ h => h, fun _ _ h => h⟩

theorem Le.trans {a b c : Ren} (h : Le a b) (h' : Le b c) : Le a c where
  n := Nat.le_trans h.n h'.n
  vers id hi := Nat.le_trans (h.vers id hi) (h'.vers id (Nat.lt_of_lt_of_le hi h.n))
  wr id hi hv g hg := by
    have h1 := h.vers id hi
    have h2 := h'.vers id (Nat.lt_of_lt_of_le hi h.n)
    exact h.wr id hi (by omega) g (h'.wr id (Nat.lt_of_lt_of_le hi h.n) (by omega) g hg)
  ro b o hb := h'.ro b o (h.ro b o hb)

theorem RelV.mono {ρ ρ' : Ren} (hle : Le ρ ρ') {v : V} {x : Value} (h : RelV ρ v x) : RelV ρ' v x := by
  induction h with
  | bool b => exact .bool b
  | int k n => exact .int k n
  | float k b => exact .float k b
  | cplx k a b => exact .cplx k a b
  | str s => exact .str s
  | nilp => exact .nilp
  | ptr id ver off a h1 h2 h3 =>
    have hv := hle.vers id h1
    exact .ptr id ver off a (Nat.lt_of_lt_of_le h1 hle.n) (Nat.le_trans h2 hv)
      (fun g hg hw => h3 g (by omega) (hle.wr id h1 (by omega) g hw))
  | rptr cs b off c e fr h1 h2 h3 h4 ih => exact .rptr cs b off c e fr (hle.ro _ _ h1) h2 ih h4
  | nils => exact .nils
  | sl id ver off len es cap a rc h1 h2 h3 h4 h5 =>
    have hv := hle.vers id h1
    exact .sl id ver off len es cap a rc (Nat.lt_of_lt_of_le h1 hle.n) (Nat.le_trans h2 hv) h3 h4
      (fun g hg hw hp => h5 g (by omega) (hle.wr id h1 (by omega) g hw) hp)
  | rs0 es a rc h => exact .rs0 es a rc h
  | rs es xs b off c e fr rc h0 h1 h2 h3 h4 h5 ih => exact .rs es xs b off c e fr rc h0 (hle.ro _ _ h1) h2 h3 ih h5
  | nilm => exact .nilm
  | map id r h1 h2 =>
    have hv := hle.vers id h1
    exact .map id r (Nat.lt_of_lt_of_le h1 hle.n) (fun g h0 hg => h2 g (by omega) (hle.wr id h1 (by omega) g hg))
  | nilf => exact .nilf
  | fn f cs xs h1 h2 ih => exact .fn f cs xs h1 ih
  | fnb f cs xs h1 h2 ih => exact .fnb f cs xs h1 ih
  | agg cs xs h1 h2 h3 ih => exact .agg cs xs h1 ih h3
  | tup cs xs h1 h2 ih => exact .tup cs xs h1 ih

def O.live : O → Bool
  | .dead => false
  | .rsv => false
  | _ => true

def FrOk (v n : Nat) (fr : Nat × Nat) : Prop := fr = (0, 0) ∨ (n ≤ fr.1 ∧ strV ≤ v)

theorem FrOk.free {v n : Nat} {fr : Nat × Nat} (h : FrOk v n fr) (x : Nat) : fr.2 ≤ x ∨ n ≤ fr.1 := by
  rcases h with h | h
  · subst h; exact .inl (Nat.zero_le _)
  · exact .inr h.1

theorem FrOk.same {v v' n n' : Nat} {fr : Nat × Nat} (h : FrOk v n fr) (hn : n' = n) (hv : v ≤ v') : FrOk v' n' fr := by
  subst hn
  rcases h with h | h
  · exact .inl h
  · exact .inr ⟨h.1, Nat.le_trans h.2 hv⟩

theorem FrOk.mono {v v' n : Nat} {fr : Nat × Nat} (h : FrOk v n fr) (hv : v ≤ v') : FrOk v' n fr := by
  rcases h with h | h
  · exact .inl h
  · exact .inr ⟨h.1, Nat.le_trans h.2 hv⟩

def RelO (ρ : Ren) (g : Img) (o : O) (b : Obj) : Prop :=
  match o, b with
  | .cells v cs, .cells c _ fr => c.size = g.base + g.size ∧ cs.length ≤ g.size ∧ FrOk v c.size fr ∧
      ∀ (i : Nat) (x : V) (y : Value), cs[i]? = some x → c[g.base + i]? = some y → RelV ρ x y ∧ y.oneCell' = true
  | .map c bs es, .map ms c' => (c' = c ∧ bs = ms.toList.map (·.born)) ∧ ms.size = es.length ∧
      ∀ (i : Nat) (e : V × V) (m : MapEntry), es[i]? = some e → ms[i]? = some m → RelV ρ e.1 m.key ∧ RelV ρ e.2 m.val
  | .iter m since seen last, .mapIter mo since' seen' last' => g.base = 0 ∧ RelV ρ m (.map mo) ∧ since' = since ∧ seen'.toList = seen ∧ last' = last
  | _, _ => False

def O.ver : O → Nat
  | .cells v _ => v
  | _ => 0

structure RelH (ρ : Ren) (h : H) (w : World) : Prop where
  n : ρ.n = h.length
  live : ∀ id o, h[id]? = some o → o.live = true → ∃ g, ρ.wr id = some g
  obj : ∀ id g, ρ.wr id = some g → ∃ o ob, h[id]? = some o ∧ w.heap[g.blk]? = some ob ∧ RelO ρ g o ob ∧ ρ.vers id = o.ver
  inj : ∀ i j g g', ρ.wr i = some g → ρ.wr j = some g' → g.blk = g'.blk → i = j
  ro : ∀ b ob, ρ.ro b = some ob → w.heap[b]? = some ob
  sep : ∀ i g, ρ.wr i = some g → ρ.ro g.blk = none
  rsv : ∀ id, h[id]? = some .rsv → ρ.wr id = none ∧ ρ.vers id = 0

def unfr (o : Option Obj) : Prop :=
  match o with
  | some (.cells _ _ fr) => fr.2 = 0
  | _ => True

def frz (o : Option Obj) (off : Nat) : Bool :=
  match o with
  | some (.cells _ _ (lo, hi)) => lo ≤ off && off < hi
  | _ => false

theorem frz_frozen (w : World) (a : Addr) : w.frozen? a = frz (w.heap[a.block]?) a.off := rfl

structure Still (w w' : World) : Prop where
  os : w'.os = w.os
  output : w'.output = w.output
  grows : w.heap.size ≤ w'.heap.size

theorem Still.refl (w : World) : Still w w := ⟨rfl, rfl, Nat.le_refl _⟩
theorem Still.trans {w w' w'' : World} (h : Still w w') (h' : Still w' w'') : Still w w'' := ⟨h'.os.trans h.os, h'.output.trans h.output, Nat.le_trans h.grows h'.grows⟩

theorem unfr_frozen {w : World} {a : Addr} (h : unfr (w.heap[a.block]?)) : w.frozen? a = false := by
  unfold World.frozen?
  unfold unfr at h
  split
  · rename_i c t lo hi hb
    rw [hb] at h
    simp only at h
    subst h
    simp
  · rfl

theorem still_of {w w' : World} (ho : w'.os = w.os) (hp : w'.output = w.output) (hs : w.heap.size ≤ w'.heap.size) : Still w w' := ⟨ho, hp, hs⟩

structure Pushes (w w' : World) (ob : Obj) : Prop where
  heap : w'.heap = w.heap.push ob
  os : w'.os = w.os
  output : w'.output = w.output

theorem Pushes.still {w w' : World} {ob : Obj} (h : Pushes w w' ob) : Still w w' :=
  still_of h.os h.output (by rw [h.heap]; simp)

theorem RelO.unfr {ρ : Ren} {g : Img} {v : Nat} {cs : List V} {ob : Obj} (h : RelO ρ g (.cells v cs) ob) (hv : v < strV) : unfr (some ob) := by
  cases ob with
  | cells c e fr =>
    rcases h.2.2.1 with h | h
    · subst h; rfl
    · exact absurd h.2 (by omega)
  | _ => exact h.elim

structure Step (ρ : Ren) (lo : Nat → Option Nat) (w : World) (ρ' : Ren) (lo' : Nat → Option Nat) (w' : World) : Prop where
  le : Le ρ ρ'
  still : Still w w'
  size : w.heap.size ≤ w'.heap.size
  keep : ∀ b, b < w.heap.size → (∀ i g, ρ.wr i = some g → g.blk ≠ b) → (∀ t, lo t ≠ some b) →
    w'.heap[b]? = w.heap[b]? ∧ (∀ i g, ρ'.wr i = some g → g.blk ≠ b) ∧ (∀ t, lo' t ≠ some b) ∧ ρ'.ro b = ρ.ro b

theorem Step.refl (ρ : Ren) (lo : Nat → Option Nat) (w : World) : Step ρ lo w ρ lo w :=
  ⟨.refl ρ, .refl w, Nat.le_refl _, fun _ _ h h' => ⟨rfl, h, h', rfl⟩⟩

theorem Step.trans {ρ ρ' ρ'' : Ren} {lo lo' lo'' : Nat → Option Nat} {w w' w'' : World} (h : Step ρ lo w ρ' lo' w') (h' : Step ρ' lo' w' ρ'' lo'' w'') :
    Step ρ lo w ρ'' lo'' w'' where
  le := h.le.trans h'.le
  still := h.still.trans h'.still
  size := Nat.le_trans h.size h'.size
  keep b hb h1 h2 := by
    obtain ⟨e1, k1, k2, k3⟩ := h.keep b hb h1 h2
    obtain ⟨e1', k1', k2', k3'⟩ := h'.keep b (Nat.lt_of_lt_of_le hb h.size) k1 k2
    exact ⟨e1'.trans e1, k1', k2', k3'.trans k3⟩

def RelS (ρ : Ren) (lo : Nat → Option Nat) (x : S) (v : Value) : Prop :=
  match x with
  | .v x => RelV ρ x v
  | .p x => RelV ρ x v ∧ ∃ a, v = .pointer (some a)
  | .lp t off => ∃ b, lo t = some b ∧ v = .pointer (some ⟨b, off, none⟩)
  | .bad => True
  | .un => v = undef

def RelC (ρ : Ren) (cs : List V) (ob : Obj) : Prop :=
  match ob with
  | .cells c _ fr => c.size = cs.length ∧ fr.2 = 0 ∧ ∀ (i : Nat) (x : V) (y : Value), cs[i]? = some x → c[i]? = some y → RelV ρ x y ∧ y.oneCell' = true
  | _ => False

structure RelA (n : Nat) (ρ : Ren) (lo : Nat → Option Nat) (st : St) (a : Act) (w : World) : Prop where
  h : RelH ρ st.h w
  s : ∀ i, RelS ρ lo (lk st.s i) (a.tmps.getD i undef)
  l : ∀ t cs, lkl st.l t = some cs → ∃ b ob, lo t = some b ∧ w.heap[b]? = some ob ∧ RelC ρ cs ob
  ldom : ∀ t b, lo t = some b → ∃ cs, lkl st.l t = some cs
  lout : ∀ t b, lo t = some b → (∀ i g, ρ.wr i = some g → g.blk ≠ b) ∧ ρ.ro b = none ∧ b < w.heap.size
  linj : ∀ t t' b, lo t = some b → lo t' = some b → t = t'
  size : a.tmps.size = n
  defs : a.defers = []

theorem RelS.mono {ρ ρ' : Ren} {lo : Nat → Option Nat} (hle : Le ρ ρ') {x : S} {v : Value} (h : RelS ρ lo x v) : RelS ρ' lo x v := by
  cases x with
  | v x => exact RelV.mono hle h
  | p x => exact ⟨RelV.mono hle h.1, h.2⟩
  | lp t off => exact h
  | bad => trivial
  | un => exact h

theorem lk_cons (j : Nat) (x : S) (r : List (Nat × S)) (i : Nat) : lk ((j, x) :: r) i = if j = i then x else lk r i := by
  simp only [lk_step]
  by_cases h : j = i
  · subst h; simp
  · rw [if_neg h]
    have : Nat.beq j i = false := by
      cases hb : Nat.beq j i with
      | false => rfl
      | true => exact absurd (Nat.eq_of_beq_eq_true hb) h
    rw [this]

theorem lkl_cons (j : Nat) (x : List V) (r : List (Nat × List V)) (i : Nat) : lkl ((j, x) :: r) i = if j = i then some x else lkl r i := by
  simp only [lkl]
  by_cases h : j = i
  · subst h; simp
  · rw [if_neg h]
    have : Nat.beq j i = false := by
      cases hb : Nat.beq j i with
      | false => rfl
      | true => exact absurd (Nat.eq_of_beq_eq_true hb) h
    rw [this]

theorem getD_put {a : Act} {d : Nat} {v : Value} (hd : d < a.tmps.size) (i : Nat) :
    (a.put (some d) v).tmps.getD i undef = if d = i then v else a.tmps.getD i undef := by
  simp only [Act.put, Array.getD_eq_getD_getElem?, Array.getElem?_setIfInBounds]
  by_cases h : d = i
  · subst h; simp [hd]
  · simp [h]

theorem RelA.put {n : Nat} {ρ : Ren} {lo : Nat → Option Nat} {st : St} {a : Act} {w : World} (hr : RelA n ρ lo st a w) {d : Nat} (hd : d < n) {x : S} {v : Value}
    (hx : RelS ρ lo x v) : RelA n ρ lo ⟨(d, x) :: st.s, st.l, st.h⟩ (a.put (some d) v) w where
  h := hr.h
  s i := by
    rw [lk_cons, getD_put (by rw [hr.size]; exact hd)]
    by_cases h : d = i
    · rw [if_pos h, if_pos h]; exact hx
    · rw [if_neg h, if_neg h]; exact hr.s i
  l := hr.l
  ldom := hr.ldom
  lout := hr.lout
  linj := hr.linj
  size := by simp [Act.put, hr.size]
  defs := hr.defs

theorem cstV_rel (ρ : Ren) {v : Value} {x : V} (h : cstV v = some x) : RelV ρ x v := by
  unfold cstV at h
  split at h <;> (try cases h) <;> constructor

theorem cstVs_rel (ρ : Ren) : ∀ {l : List Value} {cs : List V}, cstVs l = some cs → cs.length = l.length ∧ ∀ (i : Nat) (v : V) (x : Value), cs[i]? = some v → l[i]? = some x → RelV ρ v x
  | [], cs, h => by simp only [cstVs, Option.some.injEq] at h; subst h; simp
  | y :: r, cs, h => by
    simp only [cstVs, Option.bind_eq_some_iff] at h
    obtain ⟨x, hx, xs, hxs, h⟩ := h
    cases h
    obtain ⟨h1, h2⟩ := cstVs_rel ρ hxs
    refine ⟨by simp [h1], fun i v z hv hz => ?_⟩
    cases i with
    | zero => simp at hv hz; subst hv; subst hz; exact cstV_rel ρ hx
    | succ i => simp at hv hz; exact h2 i v z hv hz

theorem cstV_one {v : Value} {x : V} (h : cstV v = some x) : v.oneCell' = true := by
  unfold cstV at h
  split at h <;> first | rfl | (cases h)

theorem cstVs_one : ∀ {l : List Value} {cs : List V}, cstVs l = some cs → ∀ (i : Nat) (x : Value), l[i]? = some x → x.oneCell' = true
  | [], cs, _, i, x, hx => by simp at hx
  | v :: l, cs, h, i, x, hx => by
    simp only [cstVs, Option.bind_eq_some_iff] at h
    obtain ⟨y, hy, ys, hys, _⟩ := h
    cases i with
    | zero => simp at hx; subst hx; exact cstV_one hy
    | succ i => simp at hx; exact cstVs_one hys i x hx

theorem cstA_rel (ρ : Ren) {v : Value} {x : V} (h : cstA v = some x) : RelV ρ x v := by
  unfold cstA at h
  split at h
  · rename_i cs
    obtain ⟨xs, hx, rfl⟩ := Option.map_eq_some_iff.1 h
    obtain ⟨h1, h2⟩ := cstVs_rel ρ hx
    exact .agg xs cs (by simpa using h1.symm) (fun i v x hv hx => h2 i v x hv (by simpa using hx)) (fun i x hx' => cstVs_one hx i x (by simpa using hx'))
  · exact cstV_rel ρ h

theorem opnd_rel {n : Nat} {ρ : Ren} {lo : Nat → Option Nat} {st : St} {a : Act} {w : World} (hr : RelA n ρ lo st a w) (x : Operand) : RelS ρ lo (st.opnd x) (a.eval x) := by
  cases x with
  | tmp t => exact hr.s t
  | const v =>
    simp only [St.opnd, Act.eval]
    cases h : cstA v with
    | some x => exact cstA_rel ρ h
    | none => trivial
  | global g => trivial
  | func f => exact .fn f [] #[] rfl (by simp)

end
end Go.L

namespace Go.L
noncomputable section

theorem add_none (b off i : Nat) : (⟨b, off, none⟩ : Addr).add i = ⟨b, off + i, none⟩ := by
  unfold Addr.add; split <;> simp_all

theorem cell_of {w : World} {b : Nat} {c : Array Value} {e : TypeId} {fr : Nat × Nat} (h : w.heap[b]? = some (.cells c e fr)) (o : Nat) :
    w.cell? ⟨b, o, none⟩ = c[o]? := by
  simp [World.cell?, h]

def RelL (ρ : Ren) (vs : List V) (ys : List Value) : Prop :=
  vs.length = ys.length ∧ ∀ (i : Nat) (v : V) (y : Value), vs[i]? = some v → ys[i]? = some y → RelV ρ v y ∧ y.oneCell' = true

theorem RelL.one {ρ : Ren} {vs : List V} {ys : List Value} (h : RelL ρ vs ys) : ∀ y ∈ ys, y.oneCell' = true := by
  intro y hy
  obtain ⟨i, hi, rfl⟩ := List.getElem_of_mem hy
  have hi' : i < vs.length := by rw [h.1]; exact hi
  exact (h.2 i vs[i] ys[i] (List.getElem?_eq_getElem hi') (List.getElem?_eq_getElem hi)).2

theorem RelL.agg {ρ : Ren} {vs : List V} {ys : List Value} (h : RelL ρ vs ys) : RelV ρ (.agg vs) (.agg ys.toArray) := by
  refine .agg vs ys.toArray (by simp [h.1]) (fun i v x hv hx => (h.2 i v x hv (by simpa using hx)).1) (fun i x hx => ?_)
  have hx' : ys[i]? = some x := by simpa using hx
  exact h.one x (List.mem_of_getElem? hx')

theorem relL_of_agg {ρ : Ren} {vs : List V} {xs : Array Value} (h : RelV ρ (.agg vs) (.agg xs)) : RelL ρ vs xs.toList := by
  cases h with
  | agg _ _ h1 h2 h3 => exact ⟨by simp [h1], fun i v y hv hy => ⟨h2 i v y hv (by simpa using hy), h3 i y (by simpa using hy)⟩⟩

theorem agg_inv {ρ : Ren} {vs : List V} {x : Value} (h : RelV ρ (.agg vs) x) : ∃ ys : List Value, x = .agg ys.toArray ∧ RelL ρ vs ys := by
  cases h with
  | agg _ xs h1 h2 h3 => exact ⟨xs.toList, by simp, relL_of_agg (.agg _ _ h1 h2 h3)⟩

theorem rd_rel {ρ : Ren} {h : H} {w : World} (hh : RelH ρ h w) {p : V} {x : Value} (hp : RelV ρ p x) {i : Nat} {v : V} (hr : rd h p i = some v) :
    ∃ a y, x = .pointer (some a) ∧ w.cell? (a.add i) = some y ∧ RelV ρ v y ∧ y.oneCell' = true := by
  unfold rd at hr
  split at hr
  · rename_i id ver off
    split at hr
    · rename_i vv cs hid
      split at hr
      · rename_i hv
        subst hv
        obtain ⟨g, hg⟩ := hh.live id _ hid rfl
        obtain ⟨o, ob, ho, hw, hro, hver⟩ := hh.obj id g hg
        rw [hid] at ho
        cases ho
        cases hp with
        | ptr _ _ _ a h1 h2 h3 =>
          have ha := h3 g hver.symm hg
          subst ha
          cases ob with
          | cells c e fr =>
            obtain ⟨hs, hl, hf, hc⟩ := hro
            have hlt : off + i < cs.length := (List.getElem?_eq_some_iff.1 hr).1
            have hlt' : g.base + (off + i) < c.size := by omega
            obtain ⟨h5, h6⟩ := hc (off + i) v c[g.base + (off + i)] hr (Array.getElem?_eq_getElem hlt')
            refine ⟨_, c[g.base + (off + i)], rfl, ?_, h5, h6⟩
            rw [add_none, cell_of hw, Nat.add_assoc, Array.getElem?_eq_getElem hlt']
          | _ => exact hro.elim
      · cases hr
    · cases hr
  · rename_i cs
    cases hp with
    | rptr _ b off c e fr h1 h2 h3 h4 =>
      have hlt : i < cs.length := (List.getElem?_eq_some_iff.1 hr).1
      have hlt' : off + i < c.size := h2 i hlt
      have hc := Array.getElem?_eq_getElem hlt'
      refine ⟨_, c[off + i], rfl, ?_, h3 i v _ hr hc, h4 i _ hlt hc⟩
      rw [add_none, cell_of (hh.ro b _ h1), hc]
  · cases hr

theorem rdN_rd {h : H} {p : V} {n : Nat} {vs : List V} (hr : rdN h p n = some vs) : vs.length = n ∧ ∀ (j : Nat) (v : V), vs[j]? = some v → rd h p j = some v := by
  unfold rdN at hr
  split at hr
  · rename_i id ver off
    split at hr
    · rename_i vv cs hid
      split at hr
      · rename_i hv
        split at hr
        · rename_i hle
          cases hr
          refine ⟨by simp; omega, fun j v hj => ?_⟩
          simp only [rd, hid, hv, if_true]
          rw [List.getElem?_take] at hj
          split at hj
          · rwa [List.getElem?_drop] at hj
          · cases hj
        · cases hr
      · cases hr
    · cases hr
  · rename_i cs
    split at hr
    · rename_i hle
      cases hr
      refine ⟨by simp; omega, fun j v hj => ?_⟩
      simp only [rd]
      rw [List.getElem?_take] at hj
      split at hj
      · exact hj
      · cases hj
    · cases hr
  · cases hr

def RdsAt (ρ : Ren) (w : World) (a : Addr) (vs : List V) : Prop :=
  ∃ ys : List Value, RelL ρ vs ys ∧ ∀ (j : Nat) (y : Value), ys[j]? = some y → w.cell? (a.add j) = some y

theorem rds_of {ρ : Ren} {w : World} {x : Value} {vs : List V} (hne : vs ≠ [])
    (h : ∀ (j : Nat) (v : V), vs[j]? = some v → ∃ a y, x = .pointer (some a) ∧ w.cell? (a.add j) = some y ∧ RelV ρ v y ∧ y.oneCell' = true) :
    ∃ a, x = .pointer (some a) ∧ RdsAt ρ w a vs := by
  have h0 : 0 < vs.length := List.length_pos_iff.2 hne
  obtain ⟨a, _, ha, _⟩ := h 0 vs[0] (List.getElem?_eq_getElem h0)
  refine ⟨a, ha, ?_⟩
  have hall : ∀ j, j < vs.length → ∃ y, w.cell? (a.add j) = some y ∧ ∀ v, vs[j]? = some v → RelV ρ v y ∧ y.oneCell' = true := by
    intro j hj
    obtain ⟨a', y, ha', hc, hr, ho⟩ := h j vs[j] (List.getElem?_eq_getElem hj)
    rw [ha] at ha'
    cases ha'
    refine ⟨y, hc, fun v hv => ?_⟩
    rw [List.getElem?_eq_getElem hj] at hv
    cases hv
    exact ⟨hr, ho⟩
  refine ⟨(List.range vs.length).map fun j => (w.cell? (a.add j)).getD undef, ⟨by simp, fun i v y hv hy => ?_⟩, fun j y hy => ?_⟩
  · have hi : i < vs.length := (List.getElem?_eq_some_iff.1 hv).1
    obtain ⟨z, hz, hz'⟩ := hall i hi
    simp [hi, hz] at hy
    subst hy
    exact hz' v hv
  · have hj : j < vs.length := by
      have := (List.getElem?_eq_some_iff.1 hy).1
      simpa using this
    obtain ⟨z, hz, _⟩ := hall j hj
    simp [hj, hz] at hy
    subst hy
    exact hz

theorem get_rel {n : Nat} {ρ : Ren} {lo : Nat → Option Nat} {st : St} {a : Act} {w : World} (hr : RelA n ρ lo st a w) {p : S} {x : Value} (hp : RelS ρ lo p x)
    {i : Nat} {v : V} (hg : st.get p i = some v) : ∃ ad y, x = .pointer (some ad) ∧ w.cell? (ad.add i) = some y ∧ RelV ρ v y ∧ y.oneCell' = true := by
  cases p with
  | v p => exact rd_rel hr.h hp hg
  | p p => exact rd_rel hr.h hp.1 hg
  | bad => simp [St.get] at hg
  | un => simp [St.get] at hg
  | lp t off =>
    obtain ⟨b, hb, rfl⟩ := hp
    simp only [St.get] at hg
    split at hg
    · rename_i cs hcs
      obtain ⟨b', ob, hb', hw, hc⟩ := hr.l t cs hcs
      rw [hb] at hb'
      cases hb'
      cases ob with
      | cells c e fr =>
        obtain ⟨h1, _, h3⟩ := hc
        have hlt : off + i < cs.length := (List.getElem?_eq_some_iff.1 hg).1
        have hlt' : off + i < c.size := by omega
        obtain ⟨h5, h6⟩ := h3 (off + i) v c[off + i] hg (Array.getElem?_eq_getElem hlt')
        refine ⟨_, c[off + i], rfl, ?_, h5, h6⟩
        rw [add_none, cell_of hw, Array.getElem?_eq_getElem hlt']
      | _ => exact hc.elim
    · cases hg

theorem getN_get {st : St} {p : S} {n : Nat} {vs : List V} (h : st.getN p n = some vs) : vs.length = n ∧ ∀ (j : Nat) (v : V), vs[j]? = some v → st.get p j = some v := by
  cases p with
  | v p => exact rdN_rd h
  | p p => exact rdN_rd h
  | bad => simp [St.getN] at h
  | un => simp [St.getN] at h
  | lp t off =>
    simp only [St.getN] at h
    split at h
    · rename_i cs hcs
      split at h
      · rename_i hle
        cases h
        refine ⟨by simp; omega, fun j v hj => ?_⟩
        simp only [St.get, hcs]
        rw [List.getElem?_take] at hj
        split at hj
        · rwa [List.getElem?_drop] at hj
        · cases hj
      · cases h
    · cases h

theorem asInt_inv {k : IntKind} {o : Option V} {n : Int} (h : asInt k o = some n) : o = some (.int k n) := by
  unfold asInt at h
  split at h
  · split at h
    · rename_i hk; cases h; subst hk; rfl
    · cases h
  · cases h
theorem asBool_inv {o : Option V} {b : Bool} (h : asBool o = some b) : o = some (.bool b) := by
  unfold asBool at h
  split at h
  · cases h; rfl
  · cases h
theorem asStr_inv {o : Option V} {s : ByteArray} (h : asStr o = some s) : o = some (.str s) := by
  unfold asStr at h
  split at h
  · cases h; rfl
  · cases h
theorem asFloat_inv {k : FloatKind} {o : Option V} {b : Nat} (h : asFloat k o = some b) : o = some (.float k b) := by
  unfold asFloat at h
  split at h
  · split at h
    · rename_i hk; cases h; subst hk; rfl
    · cases h
  · cases h
theorem asCplx_inv {k : FloatKind} {o : Option V} {c : Nat × Nat} (h : asCplx k o = some c) : o = some (.cplx k c.1 c.2) := by
  unfold asCplx at h
  split at h
  · split at h
    · rename_i hk; cases h; subst hk; rfl
    · cases h
  · cases h
theorem asAgg_inv {n : Nat} {o : Option V} {cs : List V} (h : asAgg n o = some cs) : o = some (.agg cs) ∧ cs.length = n := by
  unfold asAgg at h
  split at h
  · split at h
    · rename_i hk; cases h; exact ⟨rfl, hk⟩
    · cases h
  · cases h
theorem asTup_inv {n : Nat} {o : Option V} {cs : List V} (h : asTup n o = some cs) : o = some (.tup cs) ∧ cs.length = n := by
  unfold asTup at h
  split at h
  · split at h
    · rename_i hk; cases h; exact ⟨rfl, hk⟩
    · cases h
  · cases h

theorem dest_inv {R : Type} {l : LK} {o : Option V} {K : V → Option R} {r : R} (h : l.dest o K = some r) : ∃ v, o = some v ∧ K v = some r := by
  cases l <;> simp only [LK.dest, Option.bind_eq_some_iff] at h
  · obtain ⟨n, hn, h⟩ := h; exact ⟨_, asInt_inv hn, h⟩
  · obtain ⟨n, hn, h⟩ := h; exact ⟨_, asBool_inv hn, h⟩
  · obtain ⟨n, hn, h⟩ := h; exact ⟨_, asStr_inv hn, h⟩
  · obtain ⟨n, hn, h⟩ := h; exact ⟨_, asFloat_inv hn, h⟩
  · obtain ⟨n, hn, h⟩ := h; exact ⟨_, asCplx_inv hn, h⟩
  · exact h

theorem rdLs_inv {R : Type} : ∀ {ls : List LK} {get : Nat → Option V} {i : Nat} {K : List V → Option R} {r : R}, rdLs ls get i K = some r →
    ∃ vs, vs.length = ls.length ∧ (∀ (j : Nat) (v : V), vs[j]? = some v → get (i + j) = some v) ∧ K vs = some r
  | [], get, i, K, r, h => ⟨[], rfl, by simp, h⟩
  | l :: ls, get, i, K, r, h => by
    simp only [rdLs] at h
    obtain ⟨v, hv, h⟩ := dest_inv h
    obtain ⟨vs, h1, h2, h3⟩ := rdLs_inv h
    refine ⟨v :: vs, by simp [h1], fun j u hj => ?_, h3⟩
    cases j with
    | zero => simp at hj; subst hj; exact hv
    | succ j => simp at hj; have := h2 j u hj; rw [show i + (j + 1) = i + 1 + j by omega]; exact this

theorem tyDest1_inv {R : Type} {t : TY} {o : Option V} {K : V → Option R} {r : R} (h : tyDest1 t o K = some r) : ∃ v, o = some v ∧ K v = some r := by
  cases t with
  | leaf l => exact dest_inv h
  | strt ls =>
    simp only [tyDest1, Option.bind_eq_some_iff] at h
    obtain ⟨vs, hvs, h⟩ := h
    obtain ⟨h1, h2⟩ := asAgg_inv hvs
    obtain ⟨us, h3, h4, h5⟩ := rdLs_inv h
    have : us = vs := by
      apply List.ext_getElem?
      intro j
      by_cases hj : j < us.length
      · have := h4 j us[j] (List.getElem?_eq_getElem hj)
        rw [List.getElem?_eq_getElem hj, ← this, Nat.zero_add]
      · rw [List.getElem?_eq_none (by omega), List.getElem?_eq_none (by omega)]
    subst this
    exact ⟨_, h1, h5⟩
  | blk n =>
    simp only [tyDest1, Option.bind_eq_some_iff] at h
    obtain ⟨vs, hvs, h⟩ := h
    exact ⟨_, (asAgg_inv hvs).1, h⟩
  | tup _ => simp [tyDest1] at h
  | no => simp [tyDest1] at h

theorem tupDest_inv {R : Type} : ∀ {ts : List TY} {get : Nat → Option V} {i : Nat} {K : List V → Option R} {r : R}, tupDest ts get i K = some r →
    ∃ vs, vs.length = ts.length ∧ (∀ (j : Nat) (v : V), vs[j]? = some v → get (i + j) = some v) ∧ K vs = some r
  | [], get, i, K, r, h => ⟨[], rfl, by simp, h⟩
  | l :: ls, get, i, K, r, h => by
    simp only [tupDest] at h
    obtain ⟨v, hv, h⟩ := tyDest1_inv h
    obtain ⟨vs, h1, h2, h3⟩ := tupDest_inv h
    refine ⟨v :: vs, by simp [h1], fun j u hj => ?_, h3⟩
    cases j with
    | zero => simp at hj; subst hj; exact hv
    | succ j => simp at hj; have := h2 j u hj; rw [show i + (j + 1) = i + 1 + j by omega]; exact this

theorem tyDest_inv {R : Type} {t : TY} {o : Option V} {K : V → Option R} {r : R} (h : tyDest t o K = some r) : ∃ v, o = some v ∧ K v = some r := by
  cases t with
  | tup ts =>
    simp only [tyDest, Option.bind_eq_some_iff] at h
    obtain ⟨vs, hvs, h⟩ := h
    obtain ⟨h1, h2⟩ := asTup_inv hvs
    obtain ⟨us, h3, h4, h5⟩ := tupDest_inv h
    have : us = vs := by
      apply List.ext_getElem?
      intro j
      by_cases hj : j < us.length
      · have := h4 j us[j] (List.getElem?_eq_getElem hj)
        rw [List.getElem?_eq_getElem hj, ← this, Nat.zero_add]
      · rw [List.getElem?_eq_none (by omega), List.getElem?_eq_none (by omega)]
    subst this
    exact ⟨_, h1, h5⟩
  | leaf l => exact tyDest1_inv (t := .leaf l) h
  | strt ls => exact tyDest1_inv (t := .strt ls) h
  | blk n => exact tyDest1_inv (t := .blk n) h
  | no => exact tyDest1_inv (t := .no) h

def aggTy (d : TypeDesc) : Bool :=
  match d with
  | .struct _ | .array _ _ => true
  | _ => false

theorem leaf1_inv {P : Program} {t : TypeId} {l l' : LK} (h : leaf1 P t l = .leaf l') : P.cellsOf t = 1 := by
  unfold leaf1 at h
  split at h
  · assumption
  · cases h

theorem leaf1_ne {P : Program} {t : TypeId} {l : LK} : (∀ ls, leaf1 P t l ≠ .strt ls) ∧ (∀ n, leaf1 P t l ≠ .blk n) := by
  unfold leaf1
  split <;> exact ⟨fun _ h => (by cases h), fun _ h => (by cases h)⟩

theorem tyOf_cases (P : Program) (d : Nat) (t : TypeId) :
    (∀ l, tyOf P d t = .leaf l → ∃ u, P.underlying t = some u ∧ aggTy u = false ∧ P.cellsOf t = 1) ∧
    (∀ ls, tyOf P d t = .strt ls → ∃ u, P.underlying t = some u ∧ aggTy u = true ∧ ls.length = P.cellsOf t ∧ P.cellsOf t ≠ 0) ∧
    (∀ n, tyOf P d t = .blk n → ∃ u, P.underlying t = some u ∧ aggTy u = true ∧ n = P.cellsOf t ∧ P.cellsOf t ≠ 0) := by
  cases d with
  | zero => simp [tyOf]
  | succ d =>
    unfold tyOf
    cases hu : P.underlying t with
    | none => simp
    | some u =>
      have lf : ∀ l0 : LK, aggTy u = false → (∀ l, leaf1 P t l0 = .leaf l → ∃ u', some u = some u' ∧ aggTy u' = false ∧ P.cellsOf t = 1) ∧
          (∀ ls, leaf1 P t l0 = .strt ls → ∃ u', some u = some u' ∧ aggTy u' = true ∧ ls.length = P.cellsOf t ∧ P.cellsOf t ≠ 0) ∧
          (∀ n, leaf1 P t l0 = .blk n → ∃ u', some u = some u' ∧ aggTy u' = true ∧ n = P.cellsOf t ∧ P.cellsOf t ≠ 0) :=
        fun l0 ha => ⟨fun l h => ⟨u, rfl, ha, leaf1_inv h⟩, fun ls h => absurd h (leaf1_ne.1 ls), fun n h => absurd h (leaf1_ne.2 n)⟩
      by_cases h0 : P.cellsOf t = 0
      · cases u <;> first | exact lf _ rfl | simp [aggTy, h0]
      · cases u <;> first | exact lf _ rfl | simp [aggTy, h0]
        rename_i fs
        cases hl : leaves P 20 t with
        | none => simp
        | some ls =>
          simp only
          split
          · rename_i h1
            split
            · simp [h1]
            · simp
          · simp

theorem run_isAgg {P : Program} {t : TypeId} {u : TypeDesc} (h : P.underlying t = some u) (w : World) : (isAgg t).run P w = .ok (aggTy u) w := by
  simp only [isAgg, Sem.run_bind, run_underlying h, Result.andThen_ok]
  cases u <;> rfl

theorem info_of_underlying {P : Program} {t : TypeId} {u : TypeDesc} (h : P.underlying t = some u) : ∃ i, P.info? t = some i := by
  unfold Program.underlying at h
  cases hi : P.info? t with
  | none => rw [hi] at h; simp at h
  | some i => exact ⟨i, rfl⟩

theorem run_typeInfo {P : Program} {t : TypeId} {i : TypeInfo} (h : P.info? t = some i) (w : World) : (typeInfo t).run P w = .ok i w := by
  simp [typeInfo, h]

theorem run_sizeOf {P : Program} {t : TypeId} {i : TypeInfo} (h : P.info? t = some i) (w : World) : (sizeOf t).run P w = .ok (P.cellsOf t) w := by
  simp [sizeOf, run_typeInfo h, Program.cellsOf, h]

theorem run_sizeOf' {P : Program} {t : TypeId} {u : TypeDesc} (h : P.underlying t = some u) (w : World) : (sizeOf t).run P w = .ok (P.cellsOf t) w := by
  obtain ⟨i, hi⟩ := info_of_underlying h
  exact run_sizeOf hi w

end
end Go.L

namespace Go.L
noncomputable section

structure Kept (E : Env) (o : Oper) (st st' : St) : Prop where
  s : ∀ i, o.dst ≠ some i → lk st'.s i = lk st.s i
  l : quietL E o = true → st'.l = st.l

def Owes {R : Type} (E : Env) (o : Oper) (st : St) (ρ : Ren) (lo : Nat → Option Nat) (w : World) (K : St → Option R) (r : R) (next : Act → World → Prop) : Prop :=
  ∀ (st' : St) (ρ' : Ren) (lo' : Nat → Option Nat) (a' : Act) (w' : World), K st' = some r → Kept E o st st' → RelA E.n ρ' lo' st' a' w' → Step ρ lo w ρ' lo' w' → next a' w'

theorem fin_sound {R : Type} {E : Env} {o : Oper} {st : St} {K : St → Option R} {x : S} {l : List (Nat × List V)} {h : H} {r : R} (he : fin E o st K x l h = some r)
    {ρ ρ' : Ren} {lo lo' : Nat → Option Nat} {a : Act} {w w' : World} {v : Value} (hr : RelA E.n ρ' lo' ⟨st.s, l, h⟩ a w') (hx : RelS ρ' lo' x v)
    (hs : Step ρ lo w ρ' lo' w') {next : Act → World → Prop} (hn : Owes E o st ρ lo w K r next) (hl : quietL E o = true → l = st.l := by intro _; rfl) : next (a.put o.dst v) w' := by
  unfold fin at he
  cases hd : o.dst with
  | none => rw [hd] at he; exact hn _ ρ' lo' a w' he ⟨fun _ _ => rfl, hl⟩ hr hs
  | some d =>
    rw [hd] at he
    simp only at he
    cases hb : Nat.blt d E.n with
    | false => rw [hb] at he; cases he
    | true =>
      rw [hb] at he
      have hlt : d < E.n := by simpa [Nat.blt_eq] using hb
      simp only at he
      have kept : ∀ y, Kept E o st ⟨(d, y) :: st.s, l, h⟩ := fun y => ⟨fun i hi => by
        rw [lk_cons, if_neg]
        intro e
        exact hi (by rw [hd, e]), hl⟩
      cases hlp : lpOk E d x with
      | false =>
        rw [hlp] at he
        exact hn _ ρ' lo' _ w' he (kept _) (hr.put hlt (x := .bad) trivial) hs
      | true =>
        rw [hlp] at he
        exact hn _ ρ' lo' _ w' he (kept _) (hr.put hlt hx) hs

theorem upon_of {P : Program} {o : Oper} {a : Act} {next : Act → World → Prop} {Q : Exit → Act → World → Prop} {w w' : World} {v : Value}
    (hrun : (execOp a.eval o).run P w = .ok (.value v) w') (h : next (a.put o.dst v) w') : o.wp P a w next Q := by
  unfold Oper.wp
  rw [hrun]
  exact h

theorem upon_skip {P : Program} {o : Oper} {a : Act} {next : Act → World → Prop} {Q : Exit → Act → World → Prop} {w w' : World}
    (hrun : (execOp a.eval o).run P w = .ok .skip w') (h : next (a.put o.dst undef) w') : o.wp P a w next Q := by
  unfold Oper.wp
  rw [hrun]
  exact h

section ops
variable {R : Type} {E : Env} {o : Oper} {st : St} {K : St → Option R} {r : R} {ρ : Ren} {lo : Nat → Option Nat} {a : Act} {w : World}
  {next : Act → World → Prop} {Q : Exit → Act → World → Prop}

theorem still_sound {x : S} (he : fin E o st K x st.l st.h = some r) (hr : RelA E.n ρ lo st a w) (hn : Owes E o st ρ lo w K r next) {v : Value}
    (hrun : (execOp a.eval o).run E.P w = .ok (.value v) w) (hx : RelS ρ lo x v) : o.wp E.P a w next Q :=
  upon_of hrun (fin_sound he hr hx (Step.refl _ _ _) hn)

theorem move_sound {x : Operand} (ho : o.op = .move x ∨ o.op = .assign x) (he : fin E o st K (st.opnd x) st.l st.h = some r) (hr : RelA E.n ρ lo st a w) (hn : Owes E o st ρ lo w K r next) :
    o.wp E.P a w next Q :=
  still_sound he hr hn (v := a.eval x) (by rcases ho with ho | ho <;> (unfold execOp; rw [ho]; rfl)) (opnd_rel hr x)

theorem opnd_bool (hr : RelA E.n ρ lo st a w) {c : Operand} {t : Bool} (hc : st.opnd c = .v (.bool t)) : a.eval c = .bool t := by
  have := opnd_rel hr c
  rw [hc] at this
  revert this
  generalize a.eval c = v
  intro this
  cases this
  rfl

theorem opnd_int (hr : RelA E.n ρ lo st a w) {c : Operand} {k : IntKind} {t : Int} (hc : st.opnd c = .v (.int k t)) : a.eval c = .int k t := by
  have := opnd_rel hr c
  rw [hc] at this
  revert this
  generalize a.eval c = v
  intro this
  cases this
  rfl

theorem pick_sound {c x y : Operand} (ho : o.op = .pick c x y) (he : evOp E o st K = some r) (hr : RelA E.n ρ lo st a w) (hn : Owes E o st ρ lo w K r next) :
    o.wp E.P a w next Q := by
  unfold evOp at he
  simp only [ho] at he
  split at he
  · rename_i t hc
    have hcv := opnd_bool hr hc
    have hrun : (execOp a.eval o).run E.P w = .ok (.value (if t = true then a.eval x else a.eval y)) w := by
      unfold execOp
      simp [ho, hcv, Go.asBool]
    split at he
    · rename_i p q hp hq
      have hpv := opnd_bool hr hp
      have hqv := opnd_bool hr hq
      refine still_sound he hr hn hrun ?_
      rw [hpv, hqv]
      show RelV _ _ _
      cases t <;> exact RelV.bool _
    · refine still_sound he hr hn hrun ?_
      cases t
      · exact opnd_rel hr y
      · exact opnd_rel hr x
  · cases he

theorem load_run {t : TypeId} {p : S} {x : Value} (hr : RelA E.n ρ lo st a w) (hp : RelS ρ lo p x) {K' : V → Option R}
    (he : (match tyOf E.P 2 t with
      | .leaf l => l.dest (st.get p 0) K'
      | .strt ls => rdLs ls (st.get p) 0 fun cs => K' (.agg cs)
      | .blk n => (st.getN p n).bind fun cs => K' (.agg cs)
      | _ => none) = some r) : ∃ v y, (Instr.loadAt t x).run E.P w = .ok y w ∧ RelV ρ v y ∧ K' v = some r := by
  obtain ⟨c1, c2, c3⟩ := tyOf_cases E.P 2 t
  have many : ∀ vs : List V, (∃ u, E.P.underlying t = some u ∧ aggTy u = true) → vs.length = E.P.cellsOf t → E.P.cellsOf t ≠ 0 →
      (∀ (j : Nat) (v : V), vs[j]? = some v → st.get p j = some v) → ∃ y, (Instr.loadAt t x).run E.P w = .ok y w ∧ RelV ρ (.agg vs) y := by
    intro vs hu hl hpos hg
    obtain ⟨u, hu, hag⟩ := hu
    obtain ⟨ad, hx, ys, hys, hcells⟩ : ∃ ad, x = .pointer (some ad) ∧ RdsAt ρ w ad vs :=
      rds_of (fun hv => hpos (by rw [← hl, hv]; rfl)) fun j v hj => get_rel hr hp (hg j v hj)
    subst hx
    refine ⟨.agg ys.toArray, ?_, hys.agg⟩
    have hl' : E.P.cellsOf t = ys.length := by rw [← hl]; exact hys.1
    simp only [Instr.loadAt, Instr.sureAddr, loadVar, pure_bind, Sem.run_bind, run_isAgg hu, hag, Result.andThen_ok, if_true, run_sizeOf' hu]
    rw [hl', run_loadCells_list w ad ys hcells]
    rfl
  split at he
  · rename_i l hl
    obtain ⟨u, hu, hag, _⟩ := c1 l hl
    obtain ⟨v, hv, hk⟩ := dest_inv he
    obtain ⟨ad, y, hx, hc, hvy, _⟩ := get_rel hr hp hv
    subst hx
    refine ⟨v, y, ?_, hvy, hk⟩
    have h0 : ad.add 0 = ad := by simp [Addr.add]
    rw [h0] at hc
    simp [Instr.loadAt, Instr.sureAddr, loadVar, run_isAgg hu, hag, hc]
  · rename_i ls hl
    obtain ⟨u, hu, hag, hsz, hpos⟩ := c2 ls hl
    obtain ⟨vs, h1, h2, h3⟩ := rdLs_inv he
    obtain ⟨y, hy, hv⟩ := many vs ⟨u, hu, hag⟩ (by omega) hpos (fun j v hj => by simpa using h2 j v hj)
    exact ⟨_, y, hy, hv, h3⟩
  · rename_i n hl
    obtain ⟨u, hu, hag, hsz, hpos⟩ := c3 n hl
    simp only [Option.bind_eq_some_iff] at he
    obtain ⟨vs, h1, h3⟩ := he
    obtain ⟨h4, h5⟩ := getN_get h1
    obtain ⟨y, hy, hv⟩ := many vs ⟨u, hu, hag⟩ (by omega) hpos h5
    exact ⟨_, y, hy, hv, h3⟩
  · cases he

end ops
end
end Go.L

namespace Go.L
noncomputable section

theorem spl_get {α : Type} (l ys : List α) (n j : Nat) (h : n + ys.length ≤ l.length) :
    (l.take n ++ ys ++ l.drop (n + ys.length))[j]? = if j < n then l[j]? else if j < n + ys.length then ys[j - n]? else l[j]? := by
  rw [List.append_assoc]
  by_cases h1 : j < n
  · rw [List.getElem?_append_left (by simp; omega), if_pos h1, List.getElem?_take, if_pos h1]
  · rw [if_neg h1, List.getElem?_append_right (by simp; omega)]
    have e : (l.take n).length = n := by simp; omega
    rw [e]
    by_cases h2 : j < n + ys.length
    · rw [if_pos h2, List.getElem?_append_left (by omega)]
    · rw [if_neg h2, List.getElem?_append_right (by omega), List.getElem?_drop]
      congr 1; omega

theorem splice_eq (cs : List V) (off : Nat) (xs : List V) (h : off + xs.length ≤ cs.length) : splice cs off xs = cs.take off ++ xs ++ cs.drop (off + xs.length) := by
  match xs, h with
  | [], h => simp [splice]
  | [x], h =>
    simp only [splice]
    apply List.ext_getElem?
    intro j
    rw [spl_get cs [x] off j h]
    simp only [List.getElem?_set, List.length_singleton] at h ⊢
    by_cases h1 : j < off
    · rw [if_neg (by omega), if_pos h1]
    · rw [if_neg h1]
      by_cases h2 : off = j
      · subst h2; simp; omega
      · rw [if_neg h2, if_neg (by omega)]
  | x :: y :: r, h => simp [splice]

theorem splice_length (cs : List V) (off : Nat) (xs : List V) (h : off + xs.length ≤ cs.length) : (splice cs off xs).length = cs.length := by
  rw [splice_eq cs off xs h]; simp; omega

theorem splice_get (cs : List V) (off : Nat) (xs : List V) (j : Nat) (h : off + xs.length ≤ cs.length) :
    (splice cs off xs)[j]? = if j < off then cs[j]? else if j < off + xs.length then xs[j - off]? else cs[j]? := by
  rw [splice_eq cs off xs h]; exact spl_get cs xs off j h

theorem row_spliced {ρ : Ren} {cs : List V} {c : Array Value} {base off : Nat} {xs : List V} {ys : List Value} (hl : RelL ρ xs ys)
    (h1 : off + xs.length ≤ cs.length) (h2 : base + cs.length ≤ c.size)
    (hc : ∀ (i : Nat) (x : V) (y : Value), cs[i]? = some x → c[base + i]? = some y → RelV ρ x y ∧ y.oneCell' = true) :
    ∀ (i : Nat) (x : V) (y : Value), (splice cs off xs)[i]? = some x →
      (c.toList.take (base + off) ++ ys ++ c.toList.drop (base + off + ys.length)).toArray[base + i]? = some y → RelV ρ x y ∧ y.oneCell' = true := by
  intro i x y hx hy
  rw [splice_get cs off xs i h1] at hx
  rw [List.getElem?_toArray, spl_get _ _ _ _ (by rw [← hl.1]; simp; omega)] at hy
  by_cases g1 : i < off
  · rw [if_pos g1] at hx
    rw [if_pos (by omega)] at hy
    exact hc i x y hx (by simpa using hy)
  · rw [if_neg g1] at hx
    rw [if_neg (by omega)] at hy
    by_cases g2 : i < off + xs.length
    · rw [if_pos g2] at hx
      rw [if_pos (by rw [← hl.1]; omega)] at hy
      exact hl.2 (i - off) x y hx (by rw [← hy]; congr 1; omega)
    · rw [if_neg g2] at hx
      rw [if_neg (by rw [← hl.1]; omega)] at hy
      exact hc i x y hx (by simpa using hy)

theorem run_storeCells_fr (P : Program) (g o : Nat) (t : TypeId) (fz : Nat × Nat) : ∀ (vs : List Value) (i : Nat) (cur : Array Value) (w : World), w.heap[g]? = some (.cells cur t fz) → (fz.2 ≤ o + i ∨ cur.size ≤ fz.1) → o + i + vs.length ≤ cur.size → (∀ v ∈ vs, v.oneCell' = true) →
    (storeCells ⟨g, o, none⟩ vs i).run P w = .ok () (w.setRow g (cur.toList.take (o + i) ++ vs ++ cur.toList.drop (o + i + vs.length)).toArray)
  | [], i, cur, w, hg, _, _, _ => by
    simp only [storeCells, List.append_nil, List.length_nil, Nat.add_zero, List.take_append_drop, Array.toArray_toList]
    rw [setRow_self w g cur t fz hg]
    rfl
  | v :: rest, i, cur, w, hg, hfz, hl, h1 => by
    have hi : o + i < cur.size := by simp at hl; omega
    have hadd : (⟨g, o, none⟩ : Addr).add i = ⟨g, o + i, none⟩ := by unfold Addr.add; split <;> simp_all
    have hcell : w.cell? ⟨g, o + i, none⟩ = some cur[o + i] := by simp [World.cell?, hg, hi]
    have hfro : w.frozen? ⟨g, o + i, none⟩ = false := by
      obtain ⟨lo, hi'⟩ := fz
      simp only [World.frozen?, hg, Bool.and_eq_false_iff, decide_eq_false_iff_not]
      simp only at hfz
      rcases hfz with h | h
      · right; omega
      · left; omega
    have hst : (store ((⟨g, o, none⟩ : Addr).add i) v).run P w = .ok () (w.setRow g (cur.setIfInBounds (o + i) v)) := by
      rw [hadd, run_store P w _ v _ (h1 v (by simp)), hcell]
      simp [hfro, setCell_eq_setRow w g (o + i) cur t fz v hg]
    have ih := run_storeCells_fr P g o t fz rest (i + 1) (cur.setIfInBounds (o + i) v) (w.setRow g (cur.setIfInBounds (o + i) v)) (setRow_heap w g cur _ t _ hg) (by simp; rcases hfz with h | h; exact .inl (by omega); exact .inr h) (by simp at hl ⊢; omega) (fun x hx => h1 x (by simp [hx]))
    simp only [storeCells, Sem.run_bind, hst, Result.andThen_ok, ih, setRow_setRow]
    congr 3
    have e := list_seg_step cur.toList (o + i) v rest (by simp at hl ⊢; omega)
    simpa [Array.toList_setIfInBounds, Nat.add_assoc] using e

theorem heap_setRow {w : World} {b : Nat} {c c' : Array Value} {e : TypeId} {fr : Nat × Nat} (h : w.heap[b]? = some (.cells c e fr)) :
    (w.setRow b c').heap[b]? = some (.cells c' e fr) := setRow_heap w b c c' e fr h

theorem RelH.set_cells {ρ : Ren} {h : H} {w w' : World} (hh : RelH ρ h w) {id : Nat} {g : Img} (hg : ρ.wr id = some g) {o o' : O} {ob' : Obj}
    (ho : h[id]? = some o) (hv : o'.ver = o.ver) (hw' : w'.heap[g.blk]? = some ob') (hro : RelO ρ g o' ob')
    (hoth : ∀ b, b ≠ g.blk → w'.heap[b]? = w.heap[b]?) : RelH ρ (h.set id o') w' where
  n := by rw [hh.n]; simp
  live j oj hj hl := by
    rw [List.getElem?_set] at hj
    by_cases e : id = j
    · subst e; exact ⟨g, hg⟩
    · rw [if_neg e] at hj; exact hh.live j oj hj hl
  obj j g' hj := by
    by_cases e : id = j
    · subst e
      rw [hg] at hj; cases hj
      obtain ⟨o1, ob1, h1, _, _, h4⟩ := hh.obj id g hg
      rw [ho] at h1; cases h1
      have hlt : id < h.length := (List.getElem?_eq_some_iff.1 ho).1
      refine ⟨o', ob', by rw [List.getElem?_set, if_pos rfl, if_pos hlt], hw', hro, by rw [h4, hv]⟩
    · obtain ⟨o1, ob1, h1, h2, h3, h4⟩ := hh.obj j g' hj
      refine ⟨o1, ob1, by rw [List.getElem?_set, if_neg e]; exact h1, ?_, h3, h4⟩
      rw [hoth _ (fun hb => e (hh.inj id j g g' hg hj hb.symm))]; exact h2
  inj := hh.inj
  ro b ob hb := by
    rw [hoth b (fun e => by subst e; have := hh.sep id g hg; rw [hb] at this; cases this)]
    exact hh.ro b ob hb
  sep := hh.sep
  rsv j hj := by
    rw [List.getElem?_set] at hj
    by_cases e : id = j
    · subst e
      rw [if_pos rfl] at hj
      split at hj
      · cases hj; exact hro.elim
      · cases hj
    · rw [if_neg e] at hj; exact hh.rsv j hj

theorem still_setRow {w : World} {b : Nat} {c c' : Array Value} {e : TypeId} {fr : Nat × Nat} (_ : w.heap[b]? = some (.cells c e fr)) : Still w (w.setRow b c') :=
  still_of rfl rfl (by simp)

theorem wr_rel (P : Program) {ρ : Ren} {h h' : H} {w : World} (hh : RelH ρ h w) {p : V} {x : Value} (hp : RelV ρ p x) {xs : List V} {ys : List Value} (hl : RelL ρ xs ys)
    (hw : wr h p xs = some h') : ∃ ad w', x = .pointer (some ad) ∧ (storeCells ad ys 0).run P w = .ok () w' ∧ RelH ρ h' w' ∧ w'.heap.size = w.heap.size ∧
      ∃ id g, ρ.wr id = some g ∧ Still w w' ∧ ∀ b, b ≠ g.blk → w'.heap[b]? = w.heap[b]? := by
  unfold wr at hw
  split at hw
  · rename_i id ver off
    split at hw
    · rename_i v cs hid
      split at hw
      · rename_i hv
        subst hv
        split at hw
        · rename_i hle
          cases hw
          obtain ⟨g, hg⟩ := hh.live id _ hid rfl
          obtain ⟨o, ob, ho, hwb, hro, hver⟩ := hh.obj id g hg
          rw [hid] at ho
          cases ho
          cases hp with
          | ptr _ _ _ ad h1 h2 h3 =>
            have ha := h3 g hver.symm hg
            subst ha
            cases ob with
            | cells c e fr =>
              obtain ⟨hs, hcl, hf, hc⟩ := hro
              have hrun := run_storeCells_fr P g.blk (g.base + off) e fr ys 0 c w hwb (hf.free _) (by rw [← hl.1]; omega) hl.one
              simp only [Nat.add_zero] at hrun
              refine ⟨_, _, rfl, hrun, ?_, by simp, id, g, hg, still_setRow hwb, fun b hb => setRow_other w g.blk b _ hb⟩
              refine hh.set_cells hg hid rfl (heap_setRow hwb) ?_ (fun b hb => setRow_other w g.blk b _ hb)
              have hsz : (List.take (g.base + off) c.toList ++ ys ++ List.drop (g.base + off + ys.length) c.toList).toArray.size = c.size := by
                have := hl.1
                simp
                omega
              refine ⟨by rw [hsz]; exact hs, by rw [splice_length cs off xs hle]; exact hcl, by rw [hsz]; exact hf, row_spliced hl hle (by omega) hc⟩
            | _ => exact hro.elim
        · cases hw
      · cases hw
    · cases hw
  · cases hw

theorem step_in {ρ : Ren} {lo : Nat → Option Nat} {w w' : World} (hs : w'.heap.size = w.heap.size) {id : Nat} {g : Img} (hg : ρ.wr id = some g)
    (hst : Still w w') (hoth : ∀ b, b ≠ g.blk → w'.heap[b]? = w.heap[b]?) : Step ρ lo w ρ lo w' :=
  ⟨.refl ρ, hst, by omega, fun b _ h1 h2 => ⟨hoth b (fun e => h1 id g hg e.symm), h1, h2, rfl⟩⟩

theorem RelA.of_heap {n : Nat} {ρ : Ren} {lo : Nat → Option Nat} {st : St} {a : Act} {w w' : World} (hr : RelA n ρ lo st a w) {h' : H} (hh : RelH ρ h' w')
    (hs : w'.heap.size = w.heap.size) {id : Nat} {g : Img} (hg : ρ.wr id = some g) (hoth : ∀ b, b ≠ g.blk → w'.heap[b]? = w.heap[b]?) : RelA n ρ lo ⟨st.s, st.l, h'⟩ a w' where
  h := hh
  s := hr.s
  l t cs ht := by
    obtain ⟨b, ob, h1, h2, h3⟩ := hr.l t cs ht
    refine ⟨b, ob, h1, ?_, h3⟩
    rw [hoth b (fun e => (hr.lout t b h1).1 id g hg e.symm)]; exact h2
  ldom := hr.ldom
  lout t b h1 := ⟨(hr.lout t b h1).1, (hr.lout t b h1).2.1, by rw [hs]; exact (hr.lout t b h1).2.2⟩
  linj := hr.linj
  size := hr.size
  defs := hr.defs

theorem put_sound (P : Program) {R : Type} {r : R} {n : Nat} {ρ : Ren} {lo : Nat → Option Nat} {st : St} {a : Act} {w : World} (hr : RelA n ρ lo st a w) {p : S} {x : Value} (hp : RelS ρ lo p x)
    {xs : List V} {ys : List Value} (hl : RelL ρ xs ys) {K : List (Nat × List V) → H → Option R} (he : st.put p xs K = some r) :
    ∃ ad w' l' h', x = .pointer (some ad) ∧ (storeCells ad ys 0).run P w = .ok () w' ∧ K l' h' = some r ∧ RelA n ρ lo ⟨st.s, l', h'⟩ a w' ∧ Step ρ lo w ρ lo w' := by
  have heapcase : ∀ p : V, RelV ρ p x → (wr st.h p xs).bind (fun h => K st.l h) = some r →
      ∃ ad w' l' h', x = .pointer (some ad) ∧ (storeCells ad ys 0).run P w = .ok () w' ∧ K l' h' = some r ∧ RelA n ρ lo ⟨st.s, l', h'⟩ a w' ∧ Step ρ lo w ρ lo w' := by
    intro p hp he
    simp only [Option.bind_eq_some_iff] at he
    obtain ⟨h', hw, hk⟩ := he
    obtain ⟨ad, w', hx, hrun, hh', hs, id, g, hg, hst, hoth⟩ := wr_rel P hr.h hp hl hw
    exact ⟨ad, w', st.l, h', hx, hrun, hk, hr.of_heap hh' hs hg hoth, step_in hs hg hst hoth⟩
  cases p with
  | bad => simp [St.put] at he
  | un => simp [St.put] at he
  | v p => exact heapcase p hp he
  | p p => exact heapcase p hp.1 he
  | lp t off =>
    obtain ⟨b, hb, rfl⟩ := hp
    simp only [St.put] at he
    split at he
    · rename_i cs hcs
      split at he
      · rename_i hle
        obtain ⟨b', ob, hb', hwb, hc⟩ := hr.l t cs hcs
        rw [hb] at hb'
        cases hb'
        cases ob with
        | cells c e fr =>
          obtain ⟨h1, h2, h3⟩ := hc
          have hrun := run_storeCells_atF P b off e fr ys 0 c w hwb (by omega) (by rw [← hl.1]; omega) hl.one
          simp only [Nat.add_zero] at hrun
          have hout := hr.lout t b hb
          have hoth : ∀ k, k ≠ b → (w.setRow b (c.toList.take off ++ ys ++ c.toList.drop (off + ys.length)).toArray).heap[k]? = w.heap[k]? := fun k hk => setRow_other w b k _ hk
          refine ⟨_, _, _, _, rfl, hrun, he, ?_, ?_⟩
          · refine ⟨?_, hr.s, ?_, ?_, ?_, hr.linj, hr.size, hr.defs⟩
            · refine ⟨hr.h.n, hr.h.live, ?_, hr.h.inj, ?_, hr.h.sep, hr.h.rsv⟩
              · intro id g hg
                obtain ⟨o, ob, k1, k2, k3, k4⟩ := hr.h.obj id g hg
                exact ⟨o, ob, k1, by rw [hoth _ (hout.1 id g hg)]; exact k2, k3, k4⟩
              · intro k ob hk
                rw [hoth k (fun e => by subst e; rw [hout.2.1] at hk; cases hk)]
                exact hr.h.ro k ob hk
            · intro t' cs' ht'
              rw [lkl_cons] at ht'
              by_cases et : t = t'
              · subst et
                rw [if_pos rfl] at ht'
                cases ht'
                refine ⟨b, _, hb, heap_setRow hwb, ?_⟩
                refine ⟨?_, h2, ?_⟩
                · have := hl.1
                  rw [splice_length cs off xs hle]; simp; omega
                · have := row_spliced (base := 0) hl hle (c := c) (by omega) (fun i x y hx hy => h3 i x y hx (by simpa using hy))
                  intro i x y hx hy
                  exact this i x y hx (by simpa using hy)
              · rw [if_neg et] at ht'
                obtain ⟨b', ob', k1, k2, k3⟩ := hr.l t' cs' ht'
                refine ⟨b', ob', k1, ?_, k3⟩
                rw [hoth b' (fun e => et (hr.linj t t' b hb (e ▸ k1)))]; exact k2
            · intro t' b' ht'
              rw [lkl_cons]
              by_cases et : t = t'
              · rw [if_pos et]; exact ⟨_, rfl⟩
              · rw [if_neg et]; exact hr.ldom t' b' ht'
            · intro t' b' ht'
              exact ⟨(hr.lout t' b' ht').1, (hr.lout t' b' ht').2.1, by simpa using (hr.lout t' b' ht').2.2⟩
          · exact ⟨.refl ρ, still_setRow hwb, by simp, fun k _ k1 k2 => ⟨hoth k (fun e => k2 t (e ▸ hb)), k1, k2, rfl⟩⟩
        | _ => exact hc.elim
      · cases he
    · cases he

end
end Go.L

namespace Go.L
noncomputable section

def nol : Nat → Option Nat := fun _ => none

theorem RelO.mono {ρ ρ' : Ren} (hle : Le ρ ρ') {g : Img} {o : O} {ob : Obj} (h : RelO ρ g o ob) : RelO ρ' g o ob := by
  unfold RelO at *
  split at h
  · exact ⟨h.1, h.2.1, h.2.2.1, fun i x y hx hy => ⟨RelV.mono hle (h.2.2.2 i x y hx hy).1, (h.2.2.2 i x y hx hy).2⟩⟩
  · exact ⟨h.1, h.2.1, fun i e m he hm => ⟨RelV.mono hle (h.2.2 i e m he hm).1, RelV.mono hle (h.2.2 i e m he hm).2⟩⟩
  · exact ⟨h.1, RelV.mono hle h.2.1, h.2.2⟩
  · exact h

theorem RelC.mono {ρ ρ' : Ren} (hle : Le ρ ρ') {cs : List V} {ob : Obj} (h : RelC ρ cs ob) : RelC ρ' cs ob := by
  unfold RelC at *
  split at h
  · exact ⟨h.1, h.2.1, fun i x y hx hy => ⟨RelV.mono hle (h.2.2 i x y hx hy).1, (h.2.2 i x y hx hy).2⟩⟩
  · exact h

theorem RelL.mono {ρ ρ' : Ren} (hle : Le ρ ρ') {xs : List V} {ys : List Value} (h : RelL ρ xs ys) : RelL ρ' xs ys :=
  ⟨h.1, fun i v y hv hy => ⟨RelV.mono hle (h.2 i v y hv hy).1, (h.2 i v y hv hy).2⟩⟩

theorem RelH.blk_lt {ρ : Ren} {h : H} {w : World} (hh : RelH ρ h w) {id : Nat} {g : Img} (hg : ρ.wr id = some g) : g.blk < w.heap.size := by
  obtain ⟨o, ob, _, h2, _⟩ := hh.obj id g hg
  exact (Array.getElem?_eq_some_iff.1 h2).1

theorem RelH.id_lt {ρ : Ren} {h : H} {w : World} (hh : RelH ρ h w) {id : Nat} {g : Img} (hg : ρ.wr id = some g) : id < ρ.n := by
  obtain ⟨o, ob, h1, _⟩ := hh.obj id g hg
  rw [hh.n]
  exact (List.getElem?_eq_some_iff.1 h1).1

theorem RelH.ro_lt {ρ : Ren} {h : H} {w : World} (hh : RelH ρ h w) {b : Nat} {ob : Obj} (hb : ρ.ro b = some ob) : b < w.heap.size :=
  (Array.getElem?_eq_some_iff.1 (hh.ro b ob hb)).1

theorem RelA.lift {n : Nat} {ρ ρ' : Ren} {lo : Nat → Option Nat} {st : St} {a : Act} {w w' : World} {h' : H} (hr : RelA n ρ lo st a w) (hh : RelH ρ' h' w')
    (hs : Step ρ nol w ρ' nol w') : RelA n ρ' lo ⟨st.s, st.l, h'⟩ a w' ∧ Step ρ lo w ρ' lo w' := by
  have key : ∀ t b, lo t = some b → w'.heap[b]? = w.heap[b]? ∧ (∀ i g, ρ'.wr i = some g → g.blk ≠ b) ∧ ρ'.ro b = ρ.ro b := by
    intro t b hb
    obtain ⟨h1, h2, h3⟩ := hr.lout t b hb
    obtain ⟨k1, k2, _, k4⟩ := hs.keep b h3 h1 (fun _ => by simp [nol])
    exact ⟨k1, k2, k4⟩
  refine ⟨⟨hh, fun i => (hr.s i).mono hs.le, ?_, hr.ldom, ?_, hr.linj, hr.size, hr.defs⟩, ⟨hs.le, hs.still, hs.size, ?_⟩⟩
  · intro t cs ht
    obtain ⟨b, ob, h1, h2, h3⟩ := hr.l t cs ht
    exact ⟨b, ob, h1, by rw [(key t b h1).1]; exact h2, h3.mono hs.le⟩
  · intro t b ht
    obtain ⟨k1, k2, k3⟩ := key t b ht
    exact ⟨k2, by rw [k3]; exact (hr.lout t b ht).2.1, Nat.lt_of_lt_of_le (hr.lout t b ht).2.2 hs.size⟩
  · intro b hb h1 h2
    obtain ⟨k1, k2, _, k4⟩ := hs.keep b hb h1 (fun _ => by simp [nol])
    exact ⟨k1, k2, h2, k4⟩

theorem RelH.of_same {ρ : Ren} {h : H} {w w' : World} (hh : RelH ρ h w) (e : w'.heap = w.heap) : RelH ρ h w' :=
  ⟨hh.n, hh.live, fun id g hg => by obtain ⟨o, ob, h1, h2, h3⟩ := hh.obj id g hg; exact ⟨o, ob, h1, by rw [e]; exact h2, h3⟩, hh.inj,
    fun b ob hb => by rw [e]; exact hh.ro b ob hb, hh.sep, hh.rsv⟩

theorem Step.of_same {ρ : Ren} {lo : Nat → Option Nat} {w w' : World} (e : w'.heap = w.heap) (ho : w'.os = w.os) (hp : w'.output = w.output) : Step ρ lo w ρ lo w' :=
  ⟨.refl ρ, still_of ho hp (by rw [e]; exact Nat.le_refl _), by rw [e]; exact Nat.le_refl _, fun _ _ h h' => ⟨by rw [e], h, h', rfl⟩⟩

theorem RelA.of_same {n : Nat} {ρ : Ren} {lo : Nat → Option Nat} {st : St} {a : Act} {w w' : World} (hr : RelA n ρ lo st a w) (e : w'.heap = w.heap) (ho : w'.os = w.os) (hp : w'.output = w.output) : RelA n ρ lo st a w' :=
  (hr.lift (hr.h.of_same e) (Step.of_same e ho hp)).1

def Ren.add (ρ : Ren) (g : Img) : Ren where
  n := ρ.n + 1
  vers i := if i = ρ.n then 0 else ρ.vers i
  wr i := if i = ρ.n then some g else ρ.wr i
  ro := ρ.ro

theorem Le.add (ρ : Ren) (g : Img) : Le ρ (ρ.add g) where
  n := Nat.le_succ _
  vers id h := by simp [Ren.add, Nat.ne_of_lt h]
  wr id h _ g' hg := by simpa [Ren.add, Nat.ne_of_lt h] using hg
  ro _ _ h := h

theorem heap_push {w w' : World} {ob : Obj} (hw : w'.heap = w.heap.push ob) {b : Nat} (hb : b < w.heap.size) : w'.heap[b]? = w.heap[b]? := by
  rw [hw, Array.getElem?_push, if_neg (by omega)]

theorem add_rel {ρ : Ren} {h : H} {w w' : World} (hh : RelH ρ h w) {o : O} {ob : Obj} {size : Nat} (hpu : Pushes w w' ob) (hver : o.ver = 0)
    (hro : RelO ρ ⟨w.heap.size, 0, size⟩ o ob) : RelH (ρ.add ⟨w.heap.size, 0, size⟩) (h ++ [o]) w' ∧ Step ρ nol w (ρ.add ⟨w.heap.size, 0, size⟩) nol w' := by
  refine ⟨⟨by simp [Ren.add, hh.n], ?_, ?_, ?_, ?_, ?_, ?_⟩, ⟨Le.add ρ _, hpu.still, by rw [hpu.heap]; simp, ?_⟩⟩
  all_goals have hw := hpu.heap
  · intro id o' ho' hl
    by_cases e : id = ρ.n
    · exact ⟨⟨w.heap.size, 0, size⟩, by simp [Ren.add, e]⟩
    · have hlt : id < h.length := by
        have := (List.getElem?_eq_some_iff.1 ho').1
        have := hh.n
        simp at *; omega
      rw [List.getElem?_append_left hlt] at ho'
      obtain ⟨g, hg⟩ := hh.live id o' ho' hl
      exact ⟨g, by simp [Ren.add, e, hg]⟩
  · intro id g hg
    by_cases e : id = ρ.n
    · subst e
      simp [Ren.add] at hg
      subst hg
      refine ⟨o, ob, by rw [hh.n]; simp, by rw [hw]; simp, hro.mono (Le.add ρ _), by simp [Ren.add, hver]⟩
    · simp [Ren.add, e] at hg
      obtain ⟨o1, ob1, h1, h2, h3, h4⟩ := hh.obj id g hg
      have hlt : id < h.length := (List.getElem?_eq_some_iff.1 h1).1
      refine ⟨o1, ob1, by rw [List.getElem?_append_left hlt]; exact h1, ?_, h3.mono (Le.add ρ _), by simp [Ren.add, e, h4]⟩
      rw [heap_push hw (hh.blk_lt hg)]; exact h2
  · intro i j g g' hi hj hb
    by_cases e1 : i = ρ.n <;> by_cases e2 : j = ρ.n
    · omega
    · simp [Ren.add, e1] at hi; simp [Ren.add, e2] at hj; subst hi
      have := hh.blk_lt hj
      simp at hb; omega
    · simp [Ren.add, e1] at hi; simp [Ren.add, e2] at hj; subst hj
      have := hh.blk_lt hi
      simp at hb; omega
    · simp [Ren.add, e1] at hi; simp [Ren.add, e2] at hj
      exact hh.inj i j g g' hi hj hb
  · intro b ob' hb
    rw [heap_push hw (hh.ro_lt hb)]
    exact hh.ro b ob' hb
  · intro i g hg
    by_cases e : i = ρ.n
    · simp [Ren.add, e] at hg
      subst hg
      show ρ.ro w.heap.size = none
      cases hq : ρ.ro w.heap.size with
      | none => rfl
      | some x => have := hh.ro_lt hq; omega
    · simp [Ren.add, e] at hg
      exact hh.sep i g hg
  · intro id hid
    by_cases e : id = ρ.n
    · subst e
      rw [hh.n] at hid
      simp at hid
      subst hid
      exact hro.elim
    · have hlt : id < h.length := by
        have := (List.getElem?_eq_some_iff.1 hid).1
        have := hh.n
        simp at *; omega
      rw [List.getElem?_append_left hlt] at hid
      have := hh.rsv id hid
      simp [Ren.add, e, this]
  · intro b hb h1 _
    refine ⟨heap_push hw hb, ?_, fun _ => by simp [nol], rfl⟩
    intro i g hg
    by_cases e : i = ρ.n
    · simp [Ren.add, e] at hg
      subst hg
      show w.heap.size ≠ b
      omega
    · simp [Ren.add, e] at hg
      exact h1 i g hg

def Ren.addRo (ρ : Ren) (b : Nat) (ob : Obj) : Ren := { ρ with ro := fun i => if i = b then some ob else ρ.ro i }

theorem addRo_rel {ρ : Ren} {h : H} {w w' : World} (hh : RelH ρ h w) {ob : Obj} (hpu : Pushes w w' ob) (_ : unfr (some ob)) :
    RelH (ρ.addRo w.heap.size ob) h w' ∧ Step ρ nol w (ρ.addRo w.heap.size ob) nol w' := by
  have hle : Le ρ (ρ.addRo w.heap.size ob) := ⟨Nat.le_refl _, fun _ _ => Nat.le_refl _, fun _ _ _ _ h => h, fun b o hb => by
    have := hh.ro_lt hb
    show (if b = w.heap.size then _ else _) = _
    rw [if_neg (by omega)]; exact hb⟩
  refine ⟨⟨hh.n, hh.live, ?_, hh.inj, ?_, ?_, hh.rsv⟩, ⟨hle, hpu.still, by rw [hpu.heap]; simp, ?_⟩⟩
  all_goals have hw := hpu.heap
  · intro id g hg
    obtain ⟨o1, ob1, h1, h2, h3, h4⟩ := hh.obj id g hg
    exact ⟨o1, ob1, h1, by rw [heap_push hw (hh.blk_lt hg)]; exact h2, h3.mono hle, h4⟩
  · intro b ob' hb
    by_cases e : b = w.heap.size
    · subst e
      simp [Ren.addRo] at hb
      subst hb
      rw [hw]; simp
    · simp [Ren.addRo, e] at hb
      rw [heap_push hw (hh.ro_lt hb)]
      exact hh.ro b ob' hb
  · intro i g hg
    have := hh.blk_lt hg
    show (if g.blk = w.heap.size then _ else _) = _
    rw [if_neg (by omega)]
    exact hh.sep i g hg
  · intro b hb h1 _
    refine ⟨heap_push hw hb, h1, fun _ => by simp [nol], ?_⟩
    show (if b = w.heap.size then _ else _) = _
    rw [if_neg (by omega)]

def Ren.move (ρ : Ren) (id : Nat) (g : Img) : Ren :=
  { ρ with vers := fun i => if i = id then ρ.vers id + 1 else ρ.vers i, wr := fun i => if i = id then some g else ρ.wr i }

theorem Le.move {ρ : Ren} {id : Nat} {g : Img} : Le ρ (ρ.move id g) where
  n := Nat.le_refl _
  vers i _ := by by_cases e : i = id <;> simp [Ren.move, e]
  wr i _ hv g' hg := by
    by_cases e : i = id
    · simp [Ren.move, e] at hv
    · simpa [Ren.move, e] using hg
  ro _ _ h := h

theorem move_rel {ρ : Ren} {h : H} {w w' : World} (hh : RelH ρ h w) {id : Nat} {g g' : Img} (hg : ρ.wr id = some g) {v : Nat} {cs cs' : List V} (ho : h[id]? = some (.cells v cs))
    {ob' : Obj} (hw' : w'.heap[g'.blk]? = some ob') (hro : RelO ρ g' (.cells (v + 1) cs') ob')
    (hst : Still w w') (hsz : w.heap.size ≤ w'.heap.size) (hblk : g'.blk = g.blk ∨ w.heap.size ≤ g'.blk) (hoth : ∀ b, b < w.heap.size → b ≠ g.blk → w'.heap[b]? = w.heap[b]?) :
    RelH (ρ.move id g') (h.set id (.cells (v + 1) cs')) w' ∧ Step ρ nol w (ρ.move id g') nol w' := by
  have hlt : id < h.length := (List.getElem?_eq_some_iff.1 ho).1
  have hver : ρ.vers id = v := by
    obtain ⟨o1, ob1, h1, _, _, h4⟩ := hh.obj id g hg
    rw [ho] at h1; cases h1; exact h4
  refine ⟨⟨by simp [Ren.move, hh.n], ?_, ?_, ?_, ?_, ?_, ?_⟩, ⟨Le.move, hst, hsz, ?_⟩⟩
  · intro j o' hj hl
    by_cases e : j = id
    · exact ⟨g', by simp [Ren.move, e]⟩
    · rw [List.getElem?_set, if_neg (fun x => e x.symm)] at hj
      obtain ⟨g1, h1⟩ := hh.live j o' hj hl
      exact ⟨g1, by simp [Ren.move, e, h1]⟩
  · intro j g1 hj
    by_cases e : j = id
    · subst e
      simp [Ren.move] at hj
      subst hj
      refine ⟨_, ob', by rw [List.getElem?_set, if_pos rfl, if_pos hlt], hw', hro.mono Le.move, by simp [Ren.move, O.ver, hver]⟩
    · simp [Ren.move, e] at hj
      obtain ⟨o1, ob1, h1, h2, h3, h4⟩ := hh.obj j g1 hj
      refine ⟨o1, ob1, by rw [List.getElem?_set, if_neg (fun x => e x.symm)]; exact h1, ?_, h3.mono Le.move, by simp [Ren.move, e, h4]⟩
      rw [hoth _ (hh.blk_lt hj) (fun x => e (hh.inj j id g1 g hj hg x))]; exact h2
  · intro i j g1 g2 hi hj hb
    by_cases e1 : i = id <;> by_cases e2 : j = id
    · omega
    · simp [Ren.move, e1] at hi; simp [Ren.move, e2] at hj; subst hi
      have h1 := hh.blk_lt hj
      rcases hblk with hq | hq
      · exact absurd (hh.inj j id g2 g hj hg (by omega)) e2
      · omega
    · simp [Ren.move, e1] at hi; simp [Ren.move, e2] at hj; subst hj
      have h1 := hh.blk_lt hi
      rcases hblk with hq | hq
      · exact absurd (hh.inj i id g1 g hi hg (by omega)) e1
      · omega
    · simp [Ren.move, e1] at hi; simp [Ren.move, e2] at hj
      exact hh.inj i j g1 g2 hi hj hb
  · intro b ob hb
    have hb' : ρ.ro b = some ob := hb
    rw [hoth b (hh.ro_lt hb') (fun e => by subst e; have := hh.sep id g hg; rw [hb'] at this; cases this)]
    exact hh.ro b ob hb'
  · intro i g1 hi
    by_cases e : i = id
    · simp [Ren.move, e] at hi
      subst hi
      show ρ.ro g'.blk = none
      rcases hblk with hq | hq
      · rw [hq]; exact hh.sep id g hg
      · cases hq' : ρ.ro g'.blk with
        | none => rfl
        | some x => have := hh.ro_lt hq'; omega
    · simp [Ren.move, e] at hi
      exact hh.sep i g1 hi
  · intro j hj
    by_cases e : id = j
    · subst e
      rw [List.getElem?_set, if_pos rfl, if_pos hlt] at hj
      cases hj
    · rw [List.getElem?_set, if_neg e] at hj
      have := hh.rsv j hj
      simp [Ren.move, Ne.symm e, this]
  · intro b hb h1 _
    refine ⟨hoth b hb (fun e => h1 id g hg e.symm), ?_, fun _ => by simp [nol], rfl⟩
    intro i g1 hi
    by_cases e : i = id
    · simp [Ren.move, e] at hi
      subst hi
      rcases hblk with hq | hq
      · rw [hq]; exact h1 id g hg
      · omega
    · simp [Ren.move, e] at hi
      exact h1 i g1 hi

theorem fill_rel {ρ : Ren} {h : H} {w w' : World} (hh : RelH ρ h w) {id : Nat} (hid : h[id]? = some .rsv) {cs : List V} {ob : Obj} {size : Nat} (hpu : Pushes w w' ob)
    (hro : RelO ρ ⟨w.heap.size, 0, size⟩ (.cells 1 cs) ob) : RelH (ρ.move id ⟨w.heap.size, 0, size⟩) (h.set id (.cells 1 cs)) w' ∧ Step ρ nol w (ρ.move id ⟨w.heap.size, 0, size⟩) nol w' := by
  have hlt : id < h.length := (List.getElem?_eq_some_iff.1 hid).1
  obtain ⟨hwn, hvn⟩ := hh.rsv id hid
  have hw := hpu.heap
  refine ⟨⟨by simp [Ren.move, hh.n], ?_, ?_, ?_, ?_, ?_, ?_⟩, ⟨Le.move, hpu.still, by rw [hpu.heap]; simp, ?_⟩⟩
  · intro j o' hj hl
    by_cases e : j = id
    · exact ⟨_, by simp [Ren.move, e]; rfl⟩
    · rw [List.getElem?_set, if_neg (fun x => e x.symm)] at hj
      obtain ⟨g1, h1⟩ := hh.live j o' hj hl
      exact ⟨g1, by simp [Ren.move, e, h1]⟩
  · intro j g1 hj
    by_cases e : j = id
    · subst e
      simp [Ren.move] at hj
      subst hj
      refine ⟨_, ob, by rw [List.getElem?_set, if_pos rfl, if_pos hlt], by rw [hw]; simp, hro.mono Le.move, by simp [Ren.move, O.ver, hvn]⟩
    · simp [Ren.move, e] at hj
      obtain ⟨o1, ob1, h1, h2, h3, h4⟩ := hh.obj j g1 hj
      refine ⟨o1, ob1, by rw [List.getElem?_set, if_neg (fun x => e x.symm)]; exact h1, ?_, h3.mono Le.move, by simp [Ren.move, e, h4]⟩
      rw [heap_push hw (hh.blk_lt hj)]; exact h2
  · intro i j g1 g2 hi hj hb
    by_cases e1 : i = id <;> by_cases e2 : j = id
    · omega
    · simp [Ren.move, e1] at hi; simp [Ren.move, e2] at hj; subst hi
      have h1 := hh.blk_lt hj
      simp at hb; omega
    · simp [Ren.move, e1] at hi; simp [Ren.move, e2] at hj; subst hj
      have h1 := hh.blk_lt hi
      simp at hb; omega
    · simp [Ren.move, e1] at hi; simp [Ren.move, e2] at hj
      exact hh.inj i j g1 g2 hi hj hb
  · intro b ob' hb
    have hb' : ρ.ro b = some ob' := hb
    rw [heap_push hw (hh.ro_lt hb')]
    exact hh.ro b ob' hb'
  · intro i g1 hi
    by_cases e : i = id
    · simp [Ren.move, e] at hi
      subst hi
      show ρ.ro w.heap.size = none
      cases hq : ρ.ro w.heap.size with
      | none => rfl
      | some x => have := hh.ro_lt hq; omega
    · simp [Ren.move, e] at hi
      exact hh.sep i g1 hi
  · intro j hj
    by_cases e : id = j
    · subst e
      rw [List.getElem?_set, if_pos rfl, if_pos hlt] at hj
      cases hj
    · rw [List.getElem?_set, if_neg e] at hj
      have := hh.rsv j hj
      simp [Ren.move, Ne.symm e, this]
  · intro b hb h1 _
    refine ⟨heap_push hw hb, ?_, fun _ => by simp [nol], rfl⟩
    intro i g1 hi
    by_cases e : i = id
    · simp [Ren.move, e] at hi
      subst hi
      show w.heap.size ≠ b
      omega
    · simp [Ren.move, e] at hi
      exact h1 i g1 hi

def Ren.keep (ρ : Ren) (k : Nat) : Ren := { ρ with n := ρ.n + k, vers := fun i => if i < ρ.n then ρ.vers i else 0 }

theorem keep_rel {ρ : Ren} {h : H} {w : World} (hh : RelH ρ h w) (k : Nat) : RelH (ρ.keep k) (h ++ List.replicate k .rsv) w ∧ Step ρ nol w (ρ.keep k) nol w := by
  have hle : Le ρ (ρ.keep k) := ⟨Nat.le_add_right _ _, fun i hi => by simp [Ren.keep, hi], fun i hi _ g hg => hg, fun _ _ h => h⟩
  have hn := hh.n
  refine ⟨⟨by simp [Ren.keep, hn], ?_, ?_, hh.inj, hh.ro, hh.sep, ?_⟩, ⟨hle, .refl w, Nat.le_refl _, fun b hb h1 _ => ⟨rfl, h1, fun _ => by simp [nol], rfl⟩⟩⟩
  · intro id o ho hl
    by_cases e : id < h.length
    · rw [List.getElem?_append_left e] at ho
      exact hh.live id o ho hl
    · rw [List.getElem?_append_right (by omega), List.getElem?_replicate] at ho
      split at ho
      · cases ho; cases hl
      · cases ho
  · intro id g hg
    obtain ⟨o, ob, h1, h2, h3, h4⟩ := hh.obj id g hg
    have hlt : id < h.length := (List.getElem?_eq_some_iff.1 h1).1
    refine ⟨o, ob, by rw [List.getElem?_append_left hlt]; exact h1, h2, h3.mono hle, ?_⟩
    show (if id < ρ.n then ρ.vers id else 0) = _
    rw [if_pos (by omega)]; exact h4
  · intro id hid
    by_cases e : id < h.length
    · rw [List.getElem?_append_left e] at hid
      obtain ⟨k1, k2⟩ := hh.rsv id hid
      refine ⟨k1, ?_⟩
      show (if id < ρ.n then ρ.vers id else 0) = 0
      rw [if_pos (by omega)]; exact k2
    · refine ⟨?_, ?_⟩
      · show ρ.wr id = none
        cases hw : ρ.wr id with
        | none => rfl
        | some g =>
          obtain ⟨o, ob, h1, _⟩ := hh.obj id g hw
          exact absurd (List.getElem?_eq_some_iff.1 h1).1 e
      · show (if id < ρ.n then ρ.vers id else 0) = 0
        rw [if_neg (by omega)]

def Ren.freeze (ρ : Ren) (id b : Nat) (ob : Obj) : Ren :=
  { ρ with wr := fun i => if i = id then none else ρ.wr i, ro := fun i => if i = b then some ob else ρ.ro i }

theorem freeze_rel {ρ : Ren} {h : H} {w : World} (hh : RelH ρ h w) {id : Nat} {g : Img} (hg : ρ.wr id = some g) {ob : Obj} (hob : w.heap[g.blk]? = some ob) :
    RelH (ρ.freeze id g.blk ob) (h.set id .dead) w ∧ Step ρ nol w (ρ.freeze id g.blk ob) nol w := by
  have hle : Le ρ (ρ.freeze id g.blk ob) := by
    refine ⟨Nat.le_refl _, fun _ _ => Nat.le_refl _, fun i _ _ g' h => ?_, fun b o hb => ?_⟩
    · by_cases e : i = id
      · simp [Ren.freeze, e] at h
      · simpa [Ren.freeze, e] using h
    · show (if b = g.blk then _ else _) = _
      rw [if_neg (fun e => by subst e; have := hh.sep id g hg; rw [hb] at this; cases this)]; exact hb
  refine ⟨⟨by simp [Ren.freeze, hh.n], ?_, ?_, ?_, ?_, ?_, ?_⟩, ⟨hle, .refl w, Nat.le_refl _, ?_⟩⟩
  · intro j o' hj hl
    by_cases e : j = id
    · subst e
      rw [List.getElem?_set, if_pos rfl] at hj
      split at hj
      · cases hj; cases hl
      · cases hj
    · rw [List.getElem?_set, if_neg (fun x => e x.symm)] at hj
      obtain ⟨g1, h1⟩ := hh.live j o' hj hl
      exact ⟨g1, by simp [Ren.freeze, e, h1]⟩
  · intro j g1 hj
    by_cases e : j = id
    · simp [Ren.freeze, e] at hj
    · simp [Ren.freeze, e] at hj
      obtain ⟨o1, ob1, h1, h2, h3, h4⟩ := hh.obj j g1 hj
      exact ⟨o1, ob1, by rw [List.getElem?_set, if_neg (fun x => e x.symm)]; exact h1, h2, h3.mono hle, h4⟩
  · intro i j g1 g2 hi hj hb
    by_cases e1 : i = id <;> by_cases e2 : j = id
    · omega
    · simp [Ren.freeze, e1] at hi
    · simp [Ren.freeze, e2] at hj
    · simp [Ren.freeze, e1] at hi; simp [Ren.freeze, e2] at hj
      exact hh.inj i j g1 g2 hi hj hb
  · intro b ob' hb
    by_cases e : b = g.blk
    · simp [Ren.freeze, e] at hb
      subst hb; rw [e]; exact hob
    · simp [Ren.freeze, e] at hb
      exact hh.ro b ob' hb
  · intro i g1 hi
    by_cases e : i = id
    · simp [Ren.freeze, e] at hi
    · simp [Ren.freeze, e] at hi
      show (if g1.blk = g.blk then _ else _) = _
      rw [if_neg (fun x => e (hh.inj i id g1 g hi hg x))]
      exact hh.sep i g1 hi
  · intro j hj
    by_cases e : id = j
    · subst e
      rw [List.getElem?_set, if_pos rfl] at hj
      split at hj
      · cases hj
      · cases hj
    · rw [List.getElem?_set, if_neg e] at hj
      have := hh.rsv j hj
      simp [Ren.freeze, Ne.symm e, this]
  · intro b hb h1 _
    refine ⟨rfl, ?_, fun _ => by simp [nol], ?_⟩
    · intro i g1 hi
      by_cases e : i = id
      · simp [Ren.freeze, e] at hi
      · simp [Ren.freeze, e] at hi
        exact h1 i g1 hi
    · show (if b = g.blk then _ else _) = _
      rw [if_neg (fun e => h1 id g hg e.symm)]

theorem chunks_length (es : Nat) : ∀ (n : Nat) (cs : List V), (chunks es n cs).length = n
  | 0, _ => rfl
  | n + 1, cs => by simp [chunks, chunks_length es n]

theorem chunks_get (es : Nat) : ∀ (n : Nat) (cs : List V) (i : Nat) (v : V), (chunks es n cs)[i]? = some v →
    i < n ∧ v = (if es = 1 then ((cs.drop (i * es)).headD default) else .agg ((cs.drop (i * es)).take es))
  | 0, _, i, v, h => by simp [chunks] at h
  | n + 1, cs, i, v, h => by
    cases i with
    | zero => simp [chunks] at h; simp [h]
    | succ i =>
      simp [chunks] at h
      obtain ⟨h1, h2⟩ := chunks_get es n (cs.drop es) i v h
      refine ⟨by omega, ?_⟩
      rw [h2, List.drop_drop, Nat.add_mul, Nat.one_mul, Nat.add_comm es]

theorem cells_of_one {ρ : Ren} {v : V} {y : Value} (h : RelV ρ v y) (h1 : y.oneCell' = true) : v.cells = [v] := by
  cases h <;> first | rfl | (simp [Value.oneCell'] at h1)

theorem hfreeze_rel {ρ : Ren} {h h' : H} {w : World} (hh : RelH ρ h w) {s v : V} {x : Value} (hs : RelV ρ s x) {es : Nat} (hf : hfreeze h s es = some (v, h')) (hes : es ≠ 0) :
    ∃ ρ', RelH ρ' h' w ∧ Step ρ nol w ρ' nol w ∧ RelV ρ' v x := by
  unfold hfreeze at hf
  split at hf
  · cases hf
    cases hs
    exact ⟨ρ, hh, Step.refl _ _ _, .rs0 es none 0 (fun _ => rfl)⟩
  · split at hf
    · rename_i he
      cases hf; subst he
      exact ⟨ρ, hh, Step.refl _ _ _, hs⟩
    · cases hf
  · rename_i id ver off len es' cap
    split at hf
    · rename_i he
      subst he
      split at hf
      · rename_i vv cs hid
        split at hf
        · rename_i hv
          subst hv
          split at hf
          · rename_i hle
            cases hf
            obtain ⟨g, hg⟩ := hh.live id _ hid rfl
            obtain ⟨o, ob, ho, hwb, hro, hver⟩ := hh.obj id g hg
            rw [hid] at ho
            cases ho
            cases ob with
            | cells c e fr =>
              obtain ⟨hfr, hfs⟩ := freeze_rel hh hg hwb
              refine ⟨_, hfr, hfs, ?_⟩
              have hsm := RelV.mono hfs.le hs
              obtain ⟨hcs, hcl, hf0, hcc⟩ := hro
              cases hs with
              | sl _ _ _ _ _ _ ad rc h1 h2 h3 h4 h5 =>
                by_cases hlen : len = 0
                · subst hlen
                  exact .rs0 es' (some ad) rc (by simp)
                · obtain ⟨ha, hroom⟩ := h5 g hver.symm hg (by omega)
                  subst ha
                  have hl := chunks_length es' len (cs.drop off)
                  have hcell : ∀ (k : Nat) (y : Value), k < len * es' → c[g.base + off + k]? = some y → ∃ v, cs[off + k]? = some v ∧ RelV ρ v y ∧ y.oneCell' = true := by
                    intro k y hk hy
                    have hk' : off + k < cs.length := by omega
                    refine ⟨cs[off + k], List.getElem?_eq_getElem hk', ?_⟩
                    exact hcc (off + k) _ y (List.getElem?_eq_getElem hk') (by rw [← hy]; congr 1; omega)
                  have key := RelV.rs (ρ := ρ.freeze id g.blk (.cells c e fr)) es' (chunks es' len (cs.drop off)) g.blk (g.base + off) c e fr rc (by omega)
                    (by simp [Ren.freeze]) (by rw [hl]; omega) ?_ ?_ ?_
                  · rw [hl] at key; exact key
                  · intro v hv
                    obtain ⟨i, hi⟩ := List.getElem?_of_mem hv
                    obtain ⟨hin, hve⟩ := chunks_get _ _ _ _ _ hi
                    have hm : (i + 1) * es' ≤ len * es' := Nat.mul_le_mul_right _ hin
                    rw [Nat.add_mul, Nat.one_mul] at hm
                    by_cases e1 : es' = 1
                    · subst e1
                      simp only [Nat.mul_one, if_true] at hve
                      have hi2 : off + i < cs.length := by omega
                      have hcy : g.base + off + i < c.size := by omega
                      obtain ⟨v2, hv2, hr2, ho2⟩ := hcell i c[g.base + off + i] (by omega) (Array.getElem?_eq_getElem hcy)
                      have : v = v2 := by
                        rw [hve, List.drop_drop, List.headD_eq_head?_getD, List.head?_drop, hv2]; rfl
                      subst this
                      rw [cells_of_one hr2 ho2]; rfl
                    · rw [if_neg e1] at hve
                      subst hve
                      simp [V.cells]; omega
                  · intro i v j y x hi hj hx
                    obtain ⟨hin, hve⟩ := chunks_get _ _ _ _ _ hi
                    have hm : (i + 1) * es' ≤ len * es' := Nat.mul_le_mul_right _ hin
                    rw [Nat.add_mul, Nat.one_mul] at hm
                    have hxlt : g.base + off + i * es' + j < c.size := (Array.getElem?_eq_some_iff.1 hx).1
                    by_cases e1 : es' = 1
                    · subst e1
                      simp only [Nat.mul_one, if_true] at hve hx
                      have hcy : g.base + off + i < c.size := by omega
                      obtain ⟨v2, hv2, hr2, ho2⟩ := hcell i c[g.base + off + i] (by omega) (Array.getElem?_eq_getElem hcy)
                      have : v = v2 := by
                        rw [hve, List.drop_drop, List.headD_eq_head?_getD, List.head?_drop, hv2]; rfl
                      subst this
                      rw [cells_of_one hr2 ho2] at hj
                      cases j with
                      | zero =>
                        simp at hj; subst hj
                        rw [Nat.add_zero, Array.getElem?_eq_getElem hcy] at hx
                        cases hx
                        exact RelV.mono hfs.le hr2
                      | succ j => simp at hj
                    · rw [if_neg e1] at hve
                      subst hve
                      simp only [V.cells] at hj
                      rw [List.getElem?_take] at hj
                      split at hj
                      · rename_i hjl
                        rw [List.drop_drop, List.getElem?_drop] at hj
                        obtain ⟨v2, hv2, hr2, ho2⟩ := hcell (i * es' + j) x (by omega) (by rw [← hx]; congr 1; omega)
                        have : y = v2 := by
                          have e2 : off + i * es' + j = off + (i * es' + j) := by omega
                          rw [e2, hv2] at hj; cases hj; rfl
                        subst this
                        exact RelV.mono hfs.le hr2
                      · cases hj
                  · intro k y hk hy
                    rw [hl] at hk
                    obtain ⟨_, _, _, ho2⟩ := hcell k y hk hy
                    exact ho2
            | _ => exact hro.elim
          · cases hf
        · cases hf
      · cases hf
    · cases hf
  · cases hf

end
end Go.L

namespace Go.L
noncomputable section

def Triple (P : Program) (f : FuncId) (args : List V) (h : H) (v : V) (h' : H) : Prop :=
  ∀ (ρ : Ren) (w : World) (xs : Array Value), RelH ρ h w → xs.size = args.length → (∀ (i : Nat) (a : V) (x : Value), args[i]? = some a → xs[i]? = some x → RelV ρ a x) →
    Calls P f xs w fun e w' => ∃ ρ' x, e = .returned x ∧ RelH ρ' h' w' ∧ Step ρ nol w ρ' nol w' ∧ RelV ρ' v x

def Callable (P : Program) (f : FuncId) : Prop :=
  ∃ fn, P.funcs[f]? = some fn ∧ (fn.name == "runtime.NumGoroutine") = false ∧ fn.body.isNone = false

def ExtOk (P : Program) (f : FuncId) (vs : List V) (v : V) : Prop :=
  ∀ (ρ : Ren) (w : World) (xs : Array Value), xs.size = vs.length → (∀ (i : Nat) (a : V) (x : Value), vs[i]? = some a → xs[i]? = some x → RelV ρ a x) →
    ∃ y, (callFunc f xs).run P w = .ok (.value y) w ∧ RelV ρ v y

def Grows (h h' : H) : Prop := h.length ≤ h'.length ∧ ∀ i, i < h.length → h'[i]? = h[i]?

def ptrId : V → Option Nat
  | .ptr id _ _ => some id
  | _ => none

def Owns (vs : List V) (h h' : H) : Prop := ∀ i, i < h.length → vs.head?.bind ptrId ≠ some i → h'[i]? = h[i]?

def CalOk (P : Program) (f : FuncId) (c : Cal) : Prop :=
  match c with
  | .pure F => ∀ vs s, F.F vs = some s → Callable P f ∧ ∀ h, Triple P f vs h (F.out s) h
  | .ext F => ∀ vs s, F.F vs = some s → ExtOk P f vs (F.out s)
  | .ro F => ∀ vs h s, F.F vs h = some s → Callable P f ∧ Triple P f vs h (F.out s).1 h
  | .full F => ∀ vs h s, F.F vs h = some s → Callable P f ∧ Triple P f vs h (F.out s).1 (F.out s).2
  | .gro F => ∀ vs h s, F.F vs h = some s → (Callable P f ∧ Triple P f vs h (F.out s).1 (F.out s).2) ∧ Grows h (F.out s).2
  | .own F => ∀ vs h s, F.F vs h = some s → (Callable P f ∧ Triple P f vs h (F.out s).1 (F.out s).2) ∧ Owns vs h (F.out s).2
  | .dyn F => ∀ x vs h s, F.F (x :: vs) h = some s → ∃ g cap, x = .fn g cap ∧ Callable P g ∧ Triple P g (vs ++ cap) h (F.out s).1 (F.out s).2

structure Good (E : Env) : Prop where
  cal : ∀ f c, E.cal f = some c → CalOk E.P f c

theorem rdLs_mono {R : Type} {g g' : Nat → Option V} (hg : ∀ i v, g i = some v → g' i = some v) : ∀ {ls : List LK} {i : Nat} {K : List V → Option R} {r : R}, rdLs ls g i K = some r → rdLs ls g' i K = some r
  | [], i, K, r, h => h
  | l :: ls, i, K, r, h => by
    simp only [rdLs] at h ⊢
    obtain ⟨v, hv, _⟩ := dest_inv h
    rw [hg i v hv, ← hv]
    cases l <;> simp only [LK.dest, hv, Option.bind_eq_some_iff, Option.bind_some] at h ⊢
    all_goals first
      | (obtain ⟨x, hx, h⟩ := h; exact ⟨x, hx, rdLs_mono hg h⟩)
      | exact rdLs_mono hg h

section ops
variable {R : Type} {E : Env} {o : Oper} {st : St} {K : St → Option R} {r : R} {ρ : Ren} {lo : Nat → Option Nat} {a : Act} {w : World}
  {next : Act → World → Prop} {Q : Exit → Act → World → Prop}

theorem opnd_v (hr : RelA E.n ρ lo st a w) {c : Operand} {v : V} (hc : st.opnd c = .v v) : RelV ρ v (a.eval c) := by
  have := opnd_rel hr c
  rw [hc] at this
  exact this

theorem finV_sound {v : V} (he : finV E o st K v = some r) (hr : RelA E.n ρ lo st a w) (hn : Owes E o st ρ lo w K r next) {y : Value}
    (hrun : (execOp a.eval o).run E.P w = .ok (.value y) w) (hx : RelV ρ v y) : o.wp E.P a w next Q := still_sound (x := .v v) he hr hn hrun hx

theorem load_sound {t : TypeId} {x : Operand} (ho : o.op = .load t x) (he : evOp E o st K = some r) (hr : RelA E.n ρ lo st a w) (hn : Owes E o st ρ lo w K r next) :
    o.wp E.P a w next Q := by
  unfold evOp at he
  simp only [ho] at he
  have go : (match tyOf E.P 2 t with
      | .leaf l => l.dest (st.get (st.opnd x) 0) (finV E o st K)
      | .strt ls => rdLs ls (st.get (st.opnd x)) 0 fun cs => finV E o st K (.agg cs)
      | .blk n => (st.getN (st.opnd x) n).bind fun cs => finV E o st K (.agg cs)
      | _ => none) = some r → o.wp E.P a w next Q := by
    intro he
    obtain ⟨v, y, hrun, hv, hk⟩ := load_run (K' := finV E o st K) hr (opnd_rel hr x) (r := r) (t := t) he
    exact finV_sound hk hr hn (by unfold execOp; simp [ho, hrun]) hv
  split at he
  · exact go he
  · split at he
    case h_2 => cases he
    rename_i p hp
    have hg : ∀ i v, rdRo p i = some v → st.get (st.opnd x) i = some v := by
      intro i v hv
      have h1 : rd st.h p i = some v := by
        unfold rdRo at hv
        split at hv
        · exact hv
        · cases hv
      unfold plOf at hp
      split at hp
      · rename_i q hq; cases hp; rw [hq]; exact h1
      · rename_i q hq; cases hp; rw [hq]; exact h1
      · cases hp
    split at he
    · rename_i l hl
      obtain ⟨v, hv, _⟩ := dest_inv he
      refine go ?_
      rw [hl]
      simp only
      rw [hg 0 v hv, ← hv]; exact he
    · rename_i ls hl
      refine go ?_
      rw [hl]
      exact rdLs_mono hg he
    · cases he

theorem cellsAs_inv {P : Program} {d : Nat} {t : TypeId} {x : V} {y : Value} (hx : RelV ρ x y) {K' : List V → Option R} (he : cellsAs (tyOf P d t) x K' = some r) :
    ∃ xs, RelL ρ xs y.cells.toList ∧ xs.length = P.cellsOf t ∧ K' xs = some r ∧ P.cellsOf t ≠ 0 ∧ ∃ u, P.underlying t = some u := by
  obtain ⟨c1, c2, c3⟩ := tyOf_cases P d t
  unfold cellsAs at he
  split at he
  · rename_i l hl
    obtain ⟨u, hu, hag, hsz⟩ := c1 l hl
    simp only [Option.bind_eq_some_iff] at he
    obtain ⟨_, hck, he⟩ := he
    refine ⟨[x], ?_, by simp [hsz], he, by omega, u, hu⟩
    have : y.cells = #[y] ∧ y.oneCell' = true := by
      cases hx <;> first | exact ⟨rfl, rfl⟩ | (simp [ck1] at hck)
    rw [this.1]
    refine ⟨rfl, fun i v z hv hz => ?_⟩
    cases i with
    | zero => simp at hv hz; subst hv; subst hz; exact ⟨hx, this.2⟩
    | succ i => simp at hv
  · rename_i ls hl
    obtain ⟨u, hu, hag, hsz, hpos⟩ := c2 ls hl
    split at he
    · rename_i cs
      split at he
      · rename_i hlen
        obtain ⟨ys, rfl, hys⟩ := agg_inv hx
        exact ⟨cs, by simpa [Value.cells] using hys, by omega, he, hpos, u, hu⟩
      · cases he
    · cases he
  · rename_i n hl
    obtain ⟨u, hu, hag, hsz, hpos⟩ := c3 n hl
    split at he
    · rename_i cs
      split at he
      · rename_i hlen
        obtain ⟨ys, rfl, hys⟩ := agg_inv hx
        exact ⟨cs, by simpa [Value.cells] using hys, by omega, he, hpos, u, hu⟩
      · cases he
    · cases he
  · cases he

theorem store_sound {t : TypeId} {p x : Operand} (ho : o.op = .store t p x) (he : evOp E o st K = some r) (hr : RelA E.n ρ lo st a w) (hn : Owes E o st ρ lo w K r next) :
    o.wp E.P a w next Q := by
  unfold evOp at he
  simp only [ho] at he
  split at he
  · rename_i x' hx
    obtain ⟨xs, hl, hlen, he, hpos, u, hu⟩ := cellsAs_inv (opnd_v hr hx) he
    obtain ⟨ad, w', l', h', hp, hrun, he, hr', hs⟩ := put_sound E.P hr (opnd_rel hr p) hl he
    refine upon_skip (w' := w') ?_ (fin_sound he hr' (v := undef) trivial hs hn (by simp [quietL, ho]))
    have hsz : (a.eval x).cells.size = E.P.cellsOf t := by rw [← hlen, hl.1]; simp
    unfold execOp
    simp only [ho, Instr.storeAt, hp, Instr.sureAddr, pure_bind, storeVar, Sem.run_bind, run_sizeOf' hu, Result.andThen_ok]
    rw [if_neg (by simp [hsz]), hrun]
    rfl
  · cases he

theorem nck_inv {p : V} {y : Value} (h : RelV ρ p y) {u : Unit} (hn : nck p = some u) : ∃ ad, y = .pointer (some ad) := by
  cases h <;> first | exact ⟨_, rfl⟩ | (simp [nck] at hn)

theorem nilCheck_sound {x : Operand} (ho : o.op = .nilCheck x) (he : evOp E o st K = some r) (hr : RelA E.n ρ lo st a w) (hn : Owes E o st ρ lo w K r next) :
    o.wp E.P a w next Q := by
  unfold evOp at he
  simp only [ho] at he
  have hx := opnd_rel hr x
  have main : ∀ ad, a.eval x = .pointer (some ad) → (execOp a.eval o).run E.P w = .ok (.value (a.eval x)) w := by
    intro ad h
    unfold execOp
    simp [ho, h]
  split at he
  · rename_i t off hc
    rw [hc] at hx
    obtain ⟨b, hb, hv⟩ := hx
    exact still_sound he hr hn (main _ hv) (v := a.eval x) ⟨b, hb, hv⟩
  · rename_i p hc
    rw [hc] at hx
    simp only [Option.bind_eq_some_iff] at he
    obtain ⟨_, hck, he⟩ := he
    obtain ⟨ad, hv⟩ := nck_inv hx hck
    exact still_sound he hr hn (main _ hv) (v := a.eval x) ⟨hx, ad, hv⟩
  · rename_i p hc
    rw [hc] at hx
    obtain ⟨h1, ad, hv⟩ := hx
    exact still_sound he hr hn (main _ hv) (v := a.eval x) ⟨h1, ad, hv⟩
  · cases he

theorem padd_rel {p : V} {ad : Addr} (h : RelV ρ p (.pointer (some ad))) (d : Nat) : RelV ρ (padd p d) (.pointer (some (ad.add d))) := by
  cases h with
  | ptr id ver off _ h1 h2 h3 =>
    refine .ptr id ver (off + d) _ h1 h2 fun g hv hg => ?_
    rw [h3 g hv hg, add_none, Nat.add_assoc]
  | rptr cs b off c e fr h1 h2 h3 h4 =>
    rw [add_none]
    refine .rptr (cs.drop d) b (off + d) c e fr h1 (fun i hi => ?_) (fun i v x hv hx => ?_) (fun i x hi hx => ?_)
    · simp at hi
      have := h2 (d + i) (by omega)
      omega
    · rw [List.getElem?_drop] at hv
      exact h3 (d + i) v x hv (by rw [← hx]; congr 1; omega)
    · simp at hi
      exact h4 (d + i) x (by omega) (by rw [← hx]; congr 1; omega)

theorem info_of_cells {P : Program} {t : TypeId} (h : P.cellsOf t ≠ 0) : ∃ i, P.info? t = some i := by
  unfold Program.cellsOf at h
  cases hi : P.info? t with
  | none => rw [hi] at h; exact absurd rfl h
  | some i => exact ⟨i, rfl⟩

theorem run_fieldPlace {P : Program} {f : Field} (h : P.cellsOf f.type ≠ 0) (ad : Addr) (w : World) : (fieldPlace ad f).run P w = .ok (ad.add f.offset) w := by
  obtain ⟨i, hi⟩ := info_of_cells h
  simp [fieldPlace, run_sizeOf hi, h]

theorem fieldAddr_sound {t : TypeId} {x : Operand} {i : Nat} (ho : o.op = .fieldAddr t x i) (he : evOp E o st K = some r) (hr : RelA E.n ρ lo st a w) (hn : Owes E o st ρ lo w K r next) :
    o.wp E.P a w next Q := by
  unfold evOp at he
  simp only [ho] at he
  split at he
  · rename_i fs hu
    split at he
    · rename_i f hf
      split at he
      · cases he
      · rename_i hc0
        have main : ∀ ad, a.eval x = .pointer (some ad) → (execOp a.eval o).run E.P w = .ok (.value (.pointer (some (ad.add f.offset)))) w := by
          intro ad h
          unfold execOp
          simp [ho, h, Instr.fieldAt, run_underlying hu, hf, Instr.sureAddr, run_fieldPlace hc0]
        have hx := opnd_rel hr x
        split at he
        · rename_i t' off hc
          rw [hc] at hx
          obtain ⟨b, hb, hv⟩ := hx
          refine still_sound he hr hn (main _ hv) ⟨b, hb, ?_⟩
          rw [add_none]
        · rename_i p hc
          rw [hc] at hx
          simp only [Option.bind_eq_some_iff] at he
          obtain ⟨_, hck, he⟩ := he
          obtain ⟨ad, hv⟩ := nck_inv hx hck
          refine still_sound he hr hn (main _ hv) ⟨?_, _, rfl⟩
          exact padd_rel (by rw [← hv]; exact hx) _
        · rename_i p hc
          rw [hc] at hx
          obtain ⟨h1, ad, hv⟩ := hx
          refine still_sound he hr hn (main _ hv) ⟨?_, _, rfl⟩
          exact padd_rel (by rw [← hv]; exact h1) _
        · cases he
    · cases he
  · cases he

theorem unOp_sound {op : UnOp} {t : TypeId} {x : Operand} (ho : o.op = .unOp op t x) (he : evOp E o st K = some r) (hr : RelA E.n ρ lo st a w) (hn : Owes E o st ρ lo w K r next) :
    o.wp E.P a w next Q := by
  unfold evOp at he
  simp only [ho] at he
  split at he
  · rename_i v hc
    have hx := opnd_v hr hc
    unfold unS at he
    split at he
    · rename_i b
      generalize hy : a.eval x = y at hx
      cases hx
      exact finV_sound he hr hn (y := .bool (!b)) (by unfold execOp; simp [ho, hy, Op.unary]) (.bool _)
    · rename_i k n
      generalize hy : a.eval x = y at hx
      cases hx
      exact finV_sound he hr hn (y := .int k (k.wrap (0 - n))) (by unfold execOp; simp [ho, hy, Op.unary, Op.intArith]) (.int _ _)
    · rename_i k n
      generalize hy : a.eval x = y at hx
      cases hx
      exact finV_sound he hr hn (y := .float k (Op.negFloat k n)) (by unfold execOp; simp [ho, hy, Op.unary]) (.float _ _)
    · rename_i k n
      generalize hy : a.eval x = y at hx
      cases hx
      refine finV_sound he hr hn (y := .int k _) ?_ (.int _ _)
      unfold execOp; simp [ho, hy, Op.unary, Op.intBits]
    · cases he
  · cases he

theorem extract_sound {x : Operand} {i : Nat} (ho : o.op = .extract x i) (he : evOp E o st K = some r) (hr : RelA E.n ρ lo st a w) (hn : Owes E o st ρ lo w K r next) :
    o.wp E.P a w next Q := by
  unfold evOp at he
  simp only [ho] at he
  split at he
  · rename_i vs hc
    have hx := opnd_v hr hc
    split at he
    · rename_i v hv
      generalize hy : a.eval x = y at hx
      cases hx with
      | tup _ xs h1 h2 =>
        have hlt : i < xs.size := by rw [h1]; exact (List.getElem?_eq_some_iff.1 hv).1
        have hi := Array.getElem?_eq_getElem hlt
        exact finV_sound he hr hn (y := xs[i]) (by unfold execOp; simp [ho, hy, Instr.extract, hi]) (h2 i v _ hv hi)
    · cases he
  · cases he

end ops
end
end Go.L

namespace Go.L
noncomputable section

section ops
variable {R : Type} {E : Env} {o : Oper} {st : St} {K : St → Option R} {r : R} {ρ : Ren} {lo : Nat → Option Nat} {a : Act} {w : World}
  {next : Act → World → Prop} {Q : Exit → Act → World → Prop}

theorem run_sizeOf_ne {P : Program} {t : TypeId} (h : P.cellsOf t ≠ 0) (w : World) : (sizeOf t).run P w = .ok (P.cellsOf t) w := by
  obtain ⟨i, hi⟩ := info_of_cells h
  exact run_sizeOf hi w

theorem sidx_rel {s q : V} {y : Value} (hs : RelV ρ s y) {i : Int} {es : Nat} (hq : sidx s i es = some q) :
    ∃ ad len cap, y = .slice (some ad) len cap ∧ 0 ≤ i ∧ i < len ∧ RelV ρ q (.pointer (some (ad.add (i.toNat * es)))) := by
  unfold sidx at hq
  split at hq
  · rename_i id ver off len es' cap
    split at hq
    · rename_i he
      subst he
      split at hq
      · rename_i h0
        split at hq
        · rename_i hlt
          cases hq
          cases hs with
          | sl _ _ _ _ _ _ ad rc h1 h2 h3 h4 h5 =>
            refine ⟨ad, len, rc, rfl, h0, hlt, .ptr _ _ _ _ h1 h2 fun g hv hg => ?_⟩
            rw [(h5 g hv hg (by omega)).1, add_none, Nat.add_assoc]
        · cases hq
      · cases hq
    · cases hq
  · rename_i es' xs
    split at hq
    · rename_i he
      subst he
      split at hq
      · rename_i h0
        simp only [Option.map_eq_some_iff] at hq
        obtain ⟨v, hv, rfl⟩ := hq
        have hlt : i.toNat < xs.length := (List.getElem?_eq_some_iff.1 hv).1
        cases hs with
        | rs0 _ _ _ _ => simp at hlt
        | rs _ _ b off c e fr rc h0' h1 h2 h3 h4 h5 =>
          have hm : (i.toNat + 1) * es' ≤ xs.length * es' := Nat.mul_le_mul_right _ hlt
          rw [Nat.add_mul, Nat.one_mul] at hm
          have hvl := h3 v (List.mem_of_getElem? hv)
          refine ⟨_, _, _, rfl, h0, by omega, ?_⟩
          rw [add_none]
          refine .rptr _ b _ c e fr h1 (fun j hj => by omega) (fun j u x hu hx => h4 i.toNat v j u x hv hu hx) (fun j x hj hx => ?_)
          exact h5 (i.toNat * es' + j) x (by omega) (by rw [← hx]; congr 1; omega)
      · cases hq
    · cases hq
  · cases hq

theorem indexAddr_sound {t : TypeId} {x i : Operand} (ho : o.op = .indexAddr t x i) (he : evOp E o st K = some r) (hr : RelA E.n ρ lo st a w) (hn : Owes E o st ρ lo w K r next) :
    o.wp E.P a w next Q := by
  unfold evOp at he
  simp only [ho] at he
  split at he
  · rename_i k iv hi
    have hiv := opnd_int hr hi
    split at he
    · rename_i n e hu
      have main : ∀ ad, a.eval x = .pointer (some ad) → 0 ≤ iv → iv < n → E.P.cellsOf e ≠ 0 ∨ (∃ inf, E.P.info? e = some inf) →
          (execOp a.eval o).run E.P w = .ok (.value (.pointer (some (ad.add (iv.toNat * E.P.cellsOf e))))) w := by
        intro ad h h0 hlt hinf
        have hsz : (sizeOf e).run E.P w = .ok (E.P.cellsOf e) w := by
          rcases hinf with hinf | ⟨inf, hinf⟩
          · exact run_sizeOf_ne hinf w
          · exact run_sizeOf hinf w
        unfold execOp
        simp [ho, h, hiv, Instr.indexAt, asIntOf, run_underlying hu, Instr.sureAddr, h0, hlt, hsz]
      have hx := opnd_rel hr x
      split at he
      · rename_i t' off hc
        rw [hc] at hx
        obtain ⟨b, hb, hv⟩ := hx
        split at he
        · rename_i h0
          split at he
          · rename_i hlt
            split at he
            · rename_i hne
              refine still_sound he hr hn (main _ hv h0 hlt (.inl hne)) ⟨b, hb, ?_⟩
              rw [add_none]
            · cases he
          · cases he
        · cases he
      · rename_i p hc
        rw [hc] at hx
        simp only [Option.bind_eq_some_iff] at he
        obtain ⟨_, hck, q, hq, he⟩ := he
        obtain ⟨ad, hv⟩ := nck_inv hx hck
        unfold aidx at hq
        split at hq
        · rename_i h0
          split at hq
          · rename_i hlt
            split at hq
            · rename_i hne
              cases hq
              exact still_sound he hr hn (main _ hv h0 hlt (.inl hne)) ⟨padd_rel (by rw [← hv]; exact hx) _, _, rfl⟩
            · cases hq
          · cases hq
        · cases hq
      · rename_i p hc
        rw [hc] at hx
        obtain ⟨hx, ad, hv⟩ := hx
        simp only [Option.bind_eq_some_iff] at he
        obtain ⟨q, hq, he⟩ := he
        unfold aidx at hq
        split at hq
        · rename_i h0
          split at hq
          · rename_i hlt
            split at hq
            · rename_i hne
              cases hq
              exact still_sound he hr hn (main _ hv h0 hlt (.inl hne)) ⟨padd_rel (by rw [← hv]; exact hx) _, _, rfl⟩
            · cases hq
          · cases hq
        · cases hq
      · cases he
    · rename_i e hu
      split at he
      · cases he
      · rename_i hne
        split at he
        · rename_i s hc
          have hx := opnd_v hr hc
          simp only [Option.bind_eq_some_iff] at he
          obtain ⟨q, hq, he⟩ := he
          obtain ⟨ad, len, cap, hv, h0, hlt, hrel⟩ := sidx_rel hx hq
          refine still_sound he hr hn (v := .pointer (some (ad.add (iv.toNat * E.P.cellsOf e)))) ?_ ⟨hrel, _, rfl⟩
          unfold execOp
          simp [ho, hv, hiv, Instr.indexAt, asIntOf, run_underlying hu, h0, hlt, run_sizeOf_ne hne]
        · cases he
    · cases he
  · cases he

theorem part_leaf {P : Program} {t : TypeId} {u : TypeDesc} (hu : P.underlying t = some u) (hag : aggTy u = false) {ys : List Value} {off : Nat} {y : Value} (hy : ys[off]? = some y) (w : World) :
    (part t ys.toArray off).run P w = .ok y w := by
  simp [part, run_isAgg hu, hag, hy]

theorem part_agg {P : Program} {t : TypeId} {u : TypeDesc} (hu : P.underlying t = some u) (hag : aggTy u = true) (ys : List Value) (off : Nat) (w : World) :
    (part t ys.toArray off).run P w = .ok (.agg ((ys.drop off).take (P.cellsOf t)).toArray) w := by
  simp only [part, Sem.run_bind, run_isAgg hu, hag, Result.andThen_ok, if_true, run_sizeOf' hu, Sem.run_pure]
  congr 2
  apply Array.ext'
  simp

theorem part_run {P : Program} {d : Nat} {t : TypeId} {cs : List V} {ys : List Value} (hl : RelL ρ cs ys) (off : Nat) {K' : V → Option R}
    (he : (match tyOf P d t with
      | .leaf l => l.dest cs[off]? K'
      | .strt ls => if off + ls.length ≤ cs.length then rdLs ls (fun j => cs[off + j]?) 0 fun cs => K' (.agg cs) else none
      | .blk n => if off + n ≤ cs.length then K' (.agg ((cs.drop off).take n)) else none
      | _ => none) = some r) : ∃ v y, (part t ys.toArray off).run P w = .ok y w ∧ RelV ρ v y ∧ K' v = some r := by
  obtain ⟨c1, c2, c3⟩ := tyOf_cases P d t
  have sub : ∀ n, off + n ≤ cs.length → RelL ρ ((cs.drop off).take n) ((ys.drop off).take n) := by
    intro n hle
    refine ⟨by simp [hl.1], fun i v y hv hy => ?_⟩
    rw [List.getElem?_take] at hv hy
    split at hv
    · rename_i hi
      rw [if_pos hi] at hy
      rw [List.getElem?_drop] at hv hy
      exact hl.2 _ v y hv hy
    · cases hv
  split at he
  · rename_i l h
    obtain ⟨u, hu, hag, _⟩ := c1 l h
    obtain ⟨v, hv, hk⟩ := dest_inv he
    have hlt : off < ys.length := by rw [← hl.1]; exact (List.getElem?_eq_some_iff.1 hv).1
    have hy := List.getElem?_eq_getElem hlt
    exact ⟨v, ys[off], part_leaf hu hag hy w, (hl.2 off v _ hv hy).1, hk⟩
  · rename_i ls h
    obtain ⟨u, hu, hag, hsz, _⟩ := c2 ls h
    split at he
    · rename_i hle
      obtain ⟨vs, h1, h2, h3⟩ := rdLs_inv he
      have : vs = (cs.drop off).take ls.length := by
        apply List.ext_getElem?
        intro j
        rw [List.getElem?_take]
        by_cases hj : j < vs.length
        · rw [if_pos (by omega), List.getElem?_drop, List.getElem?_eq_getElem hj]
          have := h2 j vs[j] (List.getElem?_eq_getElem hj)
          simpa using this.symm
        · rw [if_neg (by omega), List.getElem?_eq_none (by omega)]
      subst this
      exact ⟨_, _, part_agg hu hag ys off w, by rw [← hsz]; exact (sub _ hle).agg, h3⟩
    · cases he
  · rename_i n h
    obtain ⟨u, hu, hag, hsz, _⟩ := c3 n h
    split at he
    · rename_i hle
      exact ⟨_, _, part_agg hu hag ys off w, by rw [← hsz]; exact (sub _ hle).agg, he⟩
    · cases he
  · cases he

theorem field_sound {t : TypeId} {x : Operand} {i : Nat} (ho : o.op = .field t x i) (he : evOp E o st K = some r) (hr : RelA E.n ρ lo st a w) (hn : Owes E o st ρ lo w K r next) :
    o.wp E.P a w next Q := by
  unfold evOp at he
  simp only [ho] at he
  split at he
  · rename_i cs off ft hc hp
    have hx := opnd_v hr hc
    obtain ⟨ys, hy, hl⟩ := agg_inv hx
    split at he
    · rename_i fs hu
      simp only [placeOf, hu, Option.map_eq_some_iff] at hp
      obtain ⟨f, hf, hfe⟩ := hp
      cases hfe
      obtain ⟨v, y, hrun, hv, hk⟩ := part_run (K' := finV E o st K) (w := w) hl _ he
      refine finV_sound hk hr hn (y := y) ?_ hv
      unfold execOp
      simp [ho, hy, Instr.field, run_underlying hu, hf, Go.asAgg, hrun]
    · cases he
  · cases he

theorem index_sound {t : TypeId} {x i : Operand} (ho : o.op = .index t x i) (he : evOp E o st K = some r) (hr : RelA E.n ρ lo st a w) (hn : Owes E o st ρ lo w K r next) :
    o.wp E.P a w next Q := by
  unfold evOp at he
  simp only [ho] at he
  split at he
  · rename_i cs k iv hc hi
    have hx := opnd_v hr hc
    have hiv := opnd_int hr hi
    obtain ⟨ys, hy, hl⟩ := agg_inv hx
    split at he
    · rename_i n e hu
      split at he
      · rename_i h0
        split at he
        · rename_i hlt
          split at he
          · rename_i hne
            obtain ⟨v, y, hrun, hv, hk⟩ := part_run (K' := finV E o st K) (w := w) hl _ he
            refine finV_sound hk hr hn (y := y) ?_ hv
            unfold execOp
            simp [ho, hy, hiv, Instr.index, run_underlying hu, asIntOf, h0, hlt, run_sizeOf_ne hne, hrun]
          · cases he
        · cases he
      · cases he
    · cases he
  · rename_i s k iv hc hi
    have hx := opnd_v hr hc
    have hiv := opnd_int hr hi
    split at he
    · rename_i hu
      split at he
      · rename_i h0
        simp only [Option.bind_eq_some_iff] at he
        obtain ⟨b, hb, he⟩ := he
        generalize hy : a.eval x = y at hx
        cases hx
        refine finV_sound he hr hn (y := .int .u8 b.toNat) ?_ (.int _ _)
        unfold execOp
        simp [ho, hy, hiv, Instr.index, run_underlying hu, asIntOf, h0, hb]
      · cases he
    · cases he
  · cases he

theorem slen_rel {s : V} {y : Value} (h : RelV ρ s y) {n : Int} (hn : slen s = some n) : ∃ ad len cap, y = .slice ad len cap ∧ n = len ∧ len = snlen s := by
  unfold slen at hn
  split at hn
  · cases hn; cases h; exact ⟨_, _, _, rfl, rfl, rfl⟩
  · cases hn; cases h; exact ⟨_, _, _, rfl, rfl, rfl⟩
  · cases hn; cases h <;> exact ⟨_, _, _, rfl, rfl, rfl⟩
  · cases hn

end ops
end
end Go.L

namespace Go.L
noncomputable section

section ops
variable {R : Type} {E : Env} {o : Oper} {st : St} {K : St → Option R} {r : R} {ρ : Ren} {lo : Nat → Option Nat} {a : Act} {w : World}
  {next : Act → World → Prop} {Q : Exit → Act → World → Prop}

theorem optInt_inv (hr : RelA E.n ρ lo st a w) {x : Option Operand} {d n : Int} (h : optInt st x d = some n) :
    (x = none ∧ n = d) ∨ ∃ y k, x = some y ∧ a.eval y = .int k n := by
  unfold optInt at h
  split at h
  · cases h; exact .inl ⟨rfl, rfl⟩
  · rename_i y
    split at h
    · rename_i k m hy
      cases h
      exact .inr ⟨y, k, rfl, opnd_int hr hy⟩
    · cases h

theorem scap_rel {s : V} {y : Value} {es : Nat} (h : RelV ρ s y) (hs : esIs s es = true) : ∃ ad len cap, y = .slice ad len cap ∧ len = snlen s ∧ scap s ≤ cap ∧ len ≤ scap s := by
  unfold esIs at hs
  split at hs
  · rename_i id ver off len es' cp
    cases h with
    | sl _ _ _ _ _ _ _ rc h1 h2 h3 h4 h5 =>
      refine ⟨_, _, _, rfl, rfl, ?_, ?_⟩
      · cases cp with
        | none => simpa [scap] using h3
        | some c => have := h4 c rfl; simp [scap]; omega
      · cases cp <;> simp [scap]; omega
  · cases h with
    | rs0 _ _ _ h => exact ⟨_, _, _, rfl, rfl, by simp [scap], by simp [scap]⟩
    | rs _ _ _ _ _ _ _ rc h0 => exact ⟨_, _, _, rfl, rfl, by simpa [scap] using h0, by simp [scap]⟩
  · cases h; exact ⟨_, _, _, rfl, rfl, by simp [scap], by simp [scap]⟩
  · cases hs

theorem cut_rel {s : V} {ad : Option Addr} {len cap : Nat} (h : RelV ρ s (.slice ad len cap)) {lo hi : Nat} (h1 : lo ≤ hi) (h2 : hi ≤ scap s) (hc : scap s ≤ cap) (es : Nat)
    (hes : ∀ id ver off l es' c, s = .sl id ver off l es' c → es' = es) (hes' : ∀ es' xs, s = .rs es' xs → es' = es) :
    RelV ρ (scut s lo hi) (.slice (if cap = lo then ad else ad.map (·.add (lo * es))) (hi - lo) (cap - lo)) := by
  cases h with
  | nils =>
    have e1 : hi = 0 := by simpa [scap] using h2
    subst e1
    have e2 : lo = 0 := by omega
    subst e2
    exact .nils
  | sl id ver off _ es' cp a rc k1 k2 k3 k4 k5 =>
    have := hes _ _ _ _ _ _ rfl
    subst this
    have hcap : ∀ c, cp = some c → cap = c := k4
    simp only [scut]
    have hne : (if cap = lo then some a else (some a).map (·.add (lo * es'))) = some (if cap = lo then a else a.add (lo * es')) := by split <;> rfl
    rw [hne]
    refine .sl id ver (off + lo * es') (hi - lo) es' _ _ (cap - lo) k1 k2 (by omega) (fun c hc' => ?_) (fun g hv hg hp => ?_)
    · cases cp with
      | none => cases hc'
      | some c0 => simp at hc'; have := k4 c0 rfl; omega
    · obtain ⟨e1, e2⟩ := k5 g hv hg (by omega)
      rw [if_neg (by omega), e1, add_none, Nat.add_assoc]
      refine ⟨rfl, ?_⟩
      have : (cap - lo) * es' = cap * es' - lo * es' := Nat.sub_mul _ _ _
      have h3 : lo * es' ≤ cap * es' := Nat.mul_le_mul_right _ (by omega)
      omega
  | rs0 es' _ _ k =>
    have e1 : hi = 0 := by simpa [scap] using h2
    subst e1
    have e2 : lo = 0 := by omega
    subst e2
    simp only [scut, Nat.zero_mul, List.drop_nil, List.take_nil, Nat.sub_zero]
    refine .rs0 _ _ _ ?_
    split
    · exact k
    · intro h; simp at h; exact k h
  | rs es' xs b off c e fr rc k0 k1 k2 k3 k4 k5 =>
    have := hes' _ _ rfl
    subst this
    have hx : hi ≤ xs.length := by simpa [scap] using h2
    simp only [scut]
    have hlen : ((xs.drop lo).take (hi - lo)).length = hi - lo := by simp; omega
    by_cases e1 : hi = lo
    · subst e1
      simp only [Nat.sub_self, List.take_zero]
      refine .rs0 _ _ _ ?_
      split <;> simp
    · have hm : hi * es' ≤ xs.length * es' := Nat.mul_le_mul_right _ hx
      have hm2 : (hi - lo) * es' = hi * es' - lo * es' := Nat.sub_mul _ _ _
      have hm3 : lo * es' ≤ hi * es' := Nat.mul_le_mul_right _ h1
      rw [if_neg (by omega)]
      simp only [Option.map_some, add_none]
      have key := RelV.rs (ρ := ρ) es' ((xs.drop lo).take (hi - lo)) b (off + lo * es') c e fr (cap - lo) (by omega) k1 (by rw [hlen]; omega)
        (fun v hv => k3 v (List.mem_of_mem_drop (List.mem_of_mem_take hv))) (fun i v j y x hi' hj hx' => ?_) (fun i x hi' hx' => ?_)
      · rw [hlen] at key; exact key
      · rw [List.getElem?_take] at hi'
        split at hi'
        · rw [List.getElem?_drop] at hi'
          refine k4 (lo + i) v j y x hi' hj ?_
          rw [← hx', Nat.add_mul]; congr 1; omega
        · cases hi'
      · rw [hlen] at hi'
        exact k5 (lo * es' + i) x (by omega) (by rw [← hx']; congr 1; omega)

theorem esIs_inv {s : V} {es : Nat} (h : esIs s es = true) : (∀ id ver off l es' c, s = .sl id ver off l es' c → es' = es) ∧ (∀ es' xs, s = .rs es' xs → es' = es) := by
  refine ⟨fun id ver off l es' c e => ?_, fun es' xs e => ?_⟩ <;> (subst e; simpa [esIs] using h)

theorem ssl_inv {es : Nat} {s v : V} {lo hi : Int} (h : ssl es s lo hi = some v) : esIs s es = true ∧ 0 ≤ lo ∧ lo ≤ hi ∧ hi ≤ scap s ∧ v = scut s lo.toNat hi.toNat := by
  unfold ssl at h
  split at h
  · split at h
    · split at h
      · split at h
        · cases h; exact ⟨‹_›, ‹_›, ‹_›, ‹_›, rfl⟩
        · cases h
      · cases h
    · cases h
  · cases h

theorem ssl3_inv {es : Nat} {s v : V} {lo hi mx : Int} (h : ssl3 es s lo hi mx = some v) : esIs s es = true ∧ 0 ≤ lo ∧ lo ≤ hi ∧ hi ≤ mx ∧ mx ≤ scap s ∧ v = scut3 s lo.toNat hi.toNat mx.toNat := by
  unfold ssl3 at h
  split at h
  · split at h
    · split at h
      · split at h
        · split at h
          · cases h; exact ⟨‹_›, ‹_›, ‹_›, ‹_›, ‹_›, rfl⟩
          · cases h
        · cases h
      · cases h
    · cases h
  · cases h

theorem cut3_rel {s : V} {ad : Option Addr} {len cap : Nat} (h : RelV ρ s (.slice ad len cap)) {lo hi mx : Nat} (h1 : lo ≤ hi) (h2 : hi ≤ mx) (h3 : mx ≤ scap s) (es : Nat)
    (hes : ∀ id ver off l es' c, s = .sl id ver off l es' c → es' = es) (hes' : ∀ es' xs, s = .rs es' xs → es' = es) :
    RelV ρ (scut3 s lo hi mx) (.slice (if mx = lo then ad else ad.map (·.add (lo * es))) (hi - lo) (mx - lo)) := by
  cases h with
  | nils =>
    have e1 : mx = 0 := by simpa [scap] using h3
    have e3 : hi = 0 := by omega
    have e2 : lo = 0 := by omega
    subst e1; subst e2; subst e3
    exact .nils
  | sl id ver off _ es' cp a rc k1 k2 k3 k4 k5 =>
    have := hes _ _ _ _ _ _ rfl
    subst this
    have hm : mx ≤ cap := by
      cases cp with
      | none => simp [scap] at h3; omega
      | some c => have := k4 c rfl; simp [scap] at h3; omega
    simp only [scut3]
    have hne : (if mx = lo then some a else (some a).map (·.add (lo * es'))) = some (if mx = lo then a else a.add (lo * es')) := by split <;> rfl
    rw [hne]
    refine .sl id ver (off + lo * es') (hi - lo) es' _ _ (mx - lo) k1 k2 (by omega) (fun c hc' => by cases hc'; rfl) (fun g hv hg hp => ?_)
    obtain ⟨e1, e2⟩ := k5 g hv hg (by omega)
    rw [if_neg (by omega), e1, add_none, Nat.add_assoc]
    refine ⟨rfl, ?_⟩
    have : (mx - lo) * es' = mx * es' - lo * es' := Nat.sub_mul _ _ _
    have h3 : lo * es' ≤ mx * es' := Nat.mul_le_mul_right _ (by omega)
    have h4 : mx * es' ≤ cap * es' := Nat.mul_le_mul_right _ hm
    omega
  | rs0 es' _ _ k =>
    have e1 : mx = 0 := by simpa [scap] using h3
    have e3 : hi = 0 := by omega
    have e2 : lo = 0 := by omega
    subst e1; subst e2; subst e3
    simp only [scut3, List.drop_nil, List.take_nil, Nat.sub_zero]
    refine .rs0 _ _ _ (fun _ => rfl)
  | rs es' xs b off c e fr rc k0 k1 k2 k3 k4 k5 =>
    have := hes' _ _ rfl
    subst this
    have hx : hi ≤ xs.length := by simp [scap] at h3; omega
    have hmx : mx ≤ xs.length := by simpa [scap] using h3
    simp only [scut3]
    have hlen : ((xs.drop lo).take (hi - lo)).length = hi - lo := by simp; omega
    by_cases e1 : hi = lo
    · subst e1
      simp only [Nat.sub_self, List.take_zero]
      refine .rs0 _ _ _ ?_
      split <;> simp
    · have hm : hi * es' ≤ xs.length * es' := Nat.mul_le_mul_right _ hx
      have hm2 : (hi - lo) * es' = hi * es' - lo * es' := Nat.sub_mul _ _ _
      have hm3 : lo * es' ≤ hi * es' := Nat.mul_le_mul_right _ h1
      rw [if_neg (by omega)]
      simp only [Option.map_some, add_none]
      have key := RelV.rs (ρ := ρ) es' ((xs.drop lo).take (hi - lo)) b (off + lo * es') c e fr (mx - lo) (by omega) k1 (by rw [hlen]; omega)
        (fun v hv => k3 v (List.mem_of_mem_drop (List.mem_of_mem_take hv))) (fun i v j y x hi' hj hx' => ?_) (fun i x hi' hx' => ?_)
      · rw [hlen] at key; exact key
      · rw [List.getElem?_take] at hi'
        split at hi'
        · rw [List.getElem?_drop] at hi'
          refine k4 (lo + i) v j y x hi' hj ?_
          rw [← hx', Nat.add_mul]; congr 1; omega
        · cases hi'
      · rw [hlen] at hi'
        exact k5 (lo * es' + i) x (by omega) (by rw [← hx']; congr 1; omega)

theorem sliceBound_ok {P : Program} {k : IntKind} {i : Int} {y : Nat} (h0 : 0 ≤ i) (h1 : i ≤ y) (code : BoundsCode) (w : World) : (Instr.sliceBound (.int k i) y code).run P w = .ok i.toNat w := by
  simp [Instr.sliceBound, asIntOf, h0, h1]

theorem sliceOp_sound {t : TypeId} {x : Operand} {l u m : Option Operand} (ho : o.op = .slice t x l u m) (he : evOp E o st K = some r) (hr : RelA E.n ρ lo st a w) (hn : Owes E o st ρ lo w K r next) :
    o.wp E.P a w next Q := by
  unfold evOp at he
  simp only [ho] at he
  split at he
  · rename_i e hel
    have hu : E.P.underlying t = some (.slice e) := by
      unfold elemOf at hel
      split at hel
      · rename_i e' hu; cases hel; exact hu
      · cases hel
    split at he
    · cases he
    · rename_i hne
      split at he
      · rename_i s hc
        have hx := opnd_v hr hc
        simp only [Option.bind_eq_some_iff] at he
        obtain ⟨n, hnn, lv, hlv, uv, huv, he⟩ := he
        obtain ⟨ad0, len0, cap0, hy0, hn0, _⟩ := slen_rel hx hnn
        have hl := optInt_inv hr hlv
        have hu' := optInt_inv hr huv
        split at he
        · simp only [Option.bind_eq_some_iff] at he
          obtain ⟨v, hv, he⟩ := he
          obtain ⟨g1, g2, g3, g4, g5⟩ := ssl_inv hv
          obtain ⟨ad, len, cap, hy, hlen, hcap, hls⟩ := scap_rel hx g1
          obtain ⟨rfl, rfl, rfl⟩ : ad = ad0 ∧ len = len0 ∧ cap = cap0 := by rw [hy] at hy0; cases hy0; exact ⟨rfl, rfl, rfl⟩
          have hcut := cut_rel (lo := lv.toNat) (hi := uv.toNat) (hy ▸ hx) (by omega) (by omega) hcap _ (esIs_inv g1).1 (esIs_inv g1).2
          subst g5
          refine finV_sound he hr hn ?_ hcut
          unfold execOp
          rcases hl with ⟨rfl, rfl⟩ | ⟨ly, lk, rfl, hle⟩ <;> rcases hu' with ⟨rfl, rfl⟩ | ⟨uy, uk, rfl, hue⟩
          · simp [ho, hy, Instr.sliceAt, run_underlying hu, Instr.slice, Instr.sliceBounds, run_sizeOf_ne hne, hn0]
          · have : uv ≤ cap := by omega
            have g6 : 0 ≤ uv := by omega
            simp [ho, hy, hue, Instr.sliceAt, run_underlying hu, Instr.slice, Instr.sliceBounds, Instr.sliceBound, asIntOf, run_sizeOf_ne hne, this, g6]
          · have h1 : lv ≤ (len : Int) := by omega
            simp [ho, hy, hle, Instr.sliceAt, run_underlying hu, Instr.slice, Instr.sliceBounds, Instr.sliceBound, asIntOf, run_sizeOf_ne hne, h1, g2, hn0]
          · have h1 : uv ≤ cap := by omega
            have g6 : 0 ≤ uv := by omega
            have h2 : lv ≤ (uv.toNat : Int) := by omega
            simp [ho, hy, hle, hue, Instr.sliceAt, run_underlying hu, Instr.slice, Instr.sliceBounds, Instr.sliceBound, asIntOf, run_sizeOf_ne hne, h1, g2, g6]
            try (intros; omega)
        · rename_i mo
          split at he
          · cases he
          · rename_i uy0
            simp only [Option.bind_eq_some_iff] at he
            obtain ⟨mv, hmv, v, hv, he⟩ := he
            have hm := optInt_inv hr hmv
            obtain ⟨g1, g2, g3, g3', g4, g5⟩ := ssl3_inv hv
            obtain ⟨ad, len, cap, hy, hlen, hcap, hls⟩ := scap_rel hx g1
            obtain ⟨rfl, rfl, rfl⟩ : ad = ad0 ∧ len = len0 ∧ cap = cap0 := by rw [hy] at hy0; cases hy0; exact ⟨rfl, rfl, rfl⟩
            have hcut := cut3_rel (lo := lv.toNat) (hi := uv.toNat) (mx := mv.toNat) (hy ▸ hx) (by omega) (by omega) (by omega) _ (esIs_inv g1).1 (esIs_inv g1).2
            subst g5
            rcases hm with ⟨hm, _⟩ | ⟨my, mk, hm, hme⟩
            · cases hm
            · cases hm
              rcases hu' with ⟨hu', _⟩ | ⟨uy, uk, hu', hue⟩
              · cases hu'
              · cases hu'
                refine finV_sound he hr hn ?_ hcut
                have h1 : mv ≤ cap := by omega
                have g6 : 0 ≤ uv := by omega
                have g7 : 0 ≤ mv := by omega
                have e1 := fun c => sliceBound_ok (P := E.P) (k := mk) (i := mv) (y := cap) g7 h1 c w
                have e2 := fun c => sliceBound_ok (P := E.P) (k := uk) (i := uv) (y := mv.toNat) g6 (by omega) c w
                unfold execOp
                rcases hl with ⟨rfl, rfl⟩ | ⟨ly, lk, rfl, hle⟩
                · simp [ho, hy, hue, hme, Instr.sliceAt, run_underlying hu, Instr.slice, Instr.sliceBounds, e1, e2, run_sizeOf_ne hne]
                · have e3 := fun c => sliceBound_ok (P := E.P) (k := lk) (i := lv) (y := uv.toNat) g2 (by omega) c w
                  simp [ho, hy, hle, hue, hme, Instr.sliceAt, run_underlying hu, Instr.slice, Instr.sliceBounds, e1, e2, e3, run_sizeOf_ne hne]
      · cases he
  · rename_i hel
    split at he
    · rename_i s hc
      have hx := opnd_v hr hc
      split at he
      · split at he
        · rename_i hu
          simp only [Option.bind_eq_some_iff] at he
          obtain ⟨lv, hlv, uv, huv, he⟩ := he
          have hl := optInt_inv hr hlv
          have hu' := optInt_inv hr huv
          unfold strSub at he
          split at he
          · rename_i g2
            split at he
            · rename_i g3
              split at he
              · rename_i g4
                generalize hy : a.eval x = y at hx
                cases hx
                refine finV_sound he hr hn (y := .string (s.extract lv.toNat uv.toNat)) ?_ (.str _)
                have g6 : 0 ≤ uv := by omega
                unfold execOp
                rcases hl with ⟨rfl, rfl⟩ | ⟨ly, lk, rfl, hle⟩ <;> rcases hu' with ⟨rfl, rfl⟩ | ⟨uy, uk, rfl, hue⟩
                · simp [ho, hy, Instr.sliceAt, run_underlying hu, Instr.slice, Instr.sliceBounds]
                · simp [ho, hy, hue, Instr.sliceAt, run_underlying hu, Instr.slice, Instr.sliceBounds, Instr.sliceBound, asIntOf, g4, g6]
                · simp [ho, hy, hle, Instr.sliceAt, run_underlying hu, Instr.slice, Instr.sliceBounds, Instr.sliceBound, asIntOf, g2, g3]
                · simp [ho, hy, hle, hue, Instr.sliceAt, run_underlying hu, Instr.slice, Instr.sliceBounds, Instr.sliceBound, asIntOf, g2, g4, g6]
                  try (intros; omega)
              · cases he
            · cases he
          · cases he
        · cases he
      · cases he
    · cases he

end ops
end
end Go.L

namespace Go.L
noncomputable section

section ops
variable {R : Type} {E : Env} {o : Oper} {st : St} {K : St → Option R} {r : R} {ρ : Ren} {lo : Nat → Option Nat} {a : Act} {w : World}
  {next : Act → World → Prop} {Q : Exit → Act → World → Prop}

theorem cstVs_relL (ρ : Ren) : ∀ {l : List Value} {cs : List V}, cstVs l = some cs → RelL ρ cs l := by
  intro l cs h
  obtain ⟨h1, h2⟩ := cstVs_rel ρ h
  refine ⟨h1, fun i v y hv hy => ⟨h2 i v y hv hy, ?_⟩⟩
  clear h1 h2 hv
  induction l generalizing cs i with
  | nil => simp at hy
  | cons z l ih =>
    simp only [cstVs, Option.bind_eq_some_iff] at h
    obtain ⟨x, hx, xs, hxs, h⟩ := h
    cases i with
    | zero => simp at hy; subst hy; exact cstV_one hx
    | succ i => simp at hy; exact ih hxs i hy

theorem zeroCells_inv {P : Program} {t : TypeId} {cs : List V} (h : zeroCells P t = some cs) : ∃ i v, P.info? t = some i ∧ i.zero = some v ∧ cstVs v.cells.toList = some cs := by
  unfold zeroCells at h
  simp only [Option.bind_eq_some_iff] at h
  obtain ⟨v, ⟨i, hi, hz⟩, hc⟩ := h
  exact ⟨i, v, hi, hz, hc⟩

theorem run_zeroValue {P : Program} {t : TypeId} {i : TypeInfo} {v : Value} (hi : P.info? t = some i) (hz : i.zero = some v) (w : World) : (zeroValue t).run P w = .ok v w := by
  simp [zeroValue, run_typeInfo hi, hz]

def pushed (w : World) (o : Obj) : World := { w with heap := w.heap.push o }

theorem new_heap (hr : RelA E.n ρ lo st a w) {cs : List V} {c : Array Value} (hl : RelL ρ cs c.toList) (t : TypeId) :
    ∃ ρ', RelA E.n ρ' lo ⟨st.s, st.l, st.h ++ [.cells 0 cs]⟩ a (pushed w (.cells c t)) ∧ Step ρ lo w ρ' lo (pushed w (.cells c t)) ∧
      RelV ρ' (.ptr st.h.length 0 0) (.pointer (some ⟨w.heap.size, 0, none⟩)) ∧ ∀ (len es : Nat), len * es ≤ cs.length → ∀ cap : Option Nat, (∀ c, cap = some c → len ≤ c ∧ c * es ≤ cs.length) → ∀ rc, len ≤ rc → rc * es ≤ cs.length → (∀ c, cap = some c → rc = c) →
        RelV ρ' (.sl st.h.length 0 0 len es cap) (.slice (some ⟨w.heap.size, 0, none⟩) len rc) := by
  have hn := hr.h.n
  have hro : RelO ρ ⟨w.heap.size, 0, cs.length⟩ (.cells 0 cs) (.cells c t) :=
    ⟨by have := hl.1; simp at this; simp; omega, Nat.le_refl _, .inl rfl, fun i x y hx hy => hl.2 i x y hx (by simpa using hy)⟩
  obtain ⟨hh, hs⟩ := add_rel (o := .cells 0 cs) hr.h (w' := pushed w (.cells c t)) ⟨rfl, rfl, rfl⟩ rfl hro
  obtain ⟨h1, h2⟩ := hr.lift hh hs
  refine ⟨_, h1, h2, ?_, ?_⟩
  · refine .ptr _ 0 0 _ (by simp [Ren.add, hn]) (Nat.zero_le _) fun g hv hg => ?_
    simp [Ren.add, hn] at hg
    subst hg
    rfl
  · intro len es hle cap hcap rc h3 h4 h5
    refine .sl _ 0 0 len es cap _ rc (by simp [Ren.add, hn]) (Nat.zero_le _) h3 h5 fun g hv hg hp => ?_
    simp [Ren.add, hn] at hg
    subst hg
    exact ⟨rfl, by simpa using h4⟩

theorem new_fill (hr : RelA E.n ρ lo st a w) {cs : List V} {c : Array Value} (hl : RelL ρ cs c.toList) (t : TypeId) {d : Nat} {h' : H} (hf : hfill st.h d cs = some h') :
    ∃ ρ', RelA E.n ρ' lo ⟨st.s, st.l, h'⟩ a (pushed w (.cells c t)) ∧ Step ρ lo w ρ' lo (pushed w (.cells c t)) ∧
      ∀ (len es : Nat), len * es ≤ cs.length → ∀ cap : Option Nat, (∀ c, cap = some c → len ≤ c ∧ c * es ≤ cs.length) → ∀ rc, len ≤ rc → rc * es ≤ cs.length → (∀ c, cap = some c → rc = c) →
        RelV ρ' (.sl (st.h.length - d) 1 0 len es cap) (.slice (some ⟨w.heap.size, 0, none⟩) len rc) := by
  have hn := hr.h.n
  unfold hfill at hf
  split at hf
  · rename_i hid
    cases hf
    have hlt : st.h.length - d < st.h.length := (List.getElem?_eq_some_iff.1 hid).1
    have hv := (hr.h.rsv _ hid).2
    have hro : RelO ρ ⟨w.heap.size, 0, cs.length⟩ (.cells 1 cs) (.cells c t) :=
      ⟨by have := hl.1; simp at this; simp; omega, Nat.le_refl _, .inl rfl, fun i x y hx hy => hl.2 i x y hx (by simpa using hy)⟩
    obtain ⟨hh, hs⟩ := fill_rel hr.h hid (w' := pushed w (.cells c t)) ⟨rfl, rfl, rfl⟩ hro
    obtain ⟨h1, h2⟩ := hr.lift hh hs
    refine ⟨_, h1, h2, ?_⟩
    intro len es hle cap hcap rc h3 h4 h5
    refine .sl _ 1 0 len es cap _ rc (by show _ < ρ.n; omega) (by simp [Ren.move, hv]) h3 h5 fun g hv hg hp => ?_
    simp [Ren.move] at hg
    subst hg
    exact ⟨rfl, by simpa using h4⟩
  · cases hf

theorem keep_all (hr : RelA E.n ρ lo st a w) (k : Nat) : ∃ ρ', RelA E.n ρ' lo ⟨st.s, st.l, st.h ++ List.replicate k .rsv⟩ a w ∧ Step ρ lo w ρ' lo w := by
  obtain ⟨hh, hs⟩ := keep_rel hr.h k
  obtain ⟨h1, h2⟩ := hr.lift hh hs
  exact ⟨_, h1, h2⟩

theorem new_local (hr : RelA E.n ρ lo st a w) {cs : List V} {c : Array Value} (hl : RelL ρ cs c.toList) (t : TypeId) {d : Nat} (hd : lkl st.l d = none) :
    ∃ lo', RelA E.n ρ lo' ⟨st.s, (d, cs) :: st.l, st.h⟩ a (pushed w (.cells c t)) ∧ Step ρ lo w ρ lo' (pushed w (.cells c t)) ∧ lo' d = some w.heap.size := by
  have hlo : lo d = none := by
    cases h : lo d with
    | none => rfl
    | some b => obtain ⟨c, hc⟩ := hr.ldom d b h; rw [hd] at hc; cases hc
  have hp : ∀ b, b < w.heap.size → (pushed w (.cells c t)).heap[b]? = w.heap[b]? := fun b hb => heap_push rfl hb
  have hsz : (pushed w (.cells c t)).heap.size = w.heap.size + 1 := by show (w.heap.push _).size = _; simp
  have hnew : (pushed w (.cells c t)).heap[w.heap.size]? = some (.cells c t (0, 0)) := by show (w.heap.push _)[w.heap.size]? = _; simp
  refine ⟨fun i => if i = d then some w.heap.size else lo i, ⟨?_, ?_, ?_, ?_, ?_, ?_, hr.size, hr.defs⟩, ⟨.refl ρ, Pushes.still (ob := .cells c t) ⟨rfl, rfl, rfl⟩, by omega, ?_⟩, by simp⟩
  · refine ⟨hr.h.n, hr.h.live, ?_, hr.h.inj, ?_, hr.h.sep, hr.h.rsv⟩
    · intro id g hg
      obtain ⟨o1, ob, k1, k2, k3⟩ := hr.h.obj id g hg
      exact ⟨o1, ob, k1, by rw [hp _ (hr.h.blk_lt hg)]; exact k2, k3⟩
    · intro b ob hb
      rw [hp _ (hr.h.ro_lt hb)]; exact hr.h.ro b ob hb
  · intro i
    have := hr.s i
    show RelS ρ _ (lk st.s i) (a.tmps.getD i undef)
    cases hx : lk st.s i with
    | v x => rw [hx] at this; exact this
    | p x => rw [hx] at this; exact this
    | bad => trivial
    | un => rw [hx] at this; exact this
    | lp t' off =>
      rw [hx] at this
      obtain ⟨b, hb, hv⟩ := this
      refine ⟨b, ?_, hv⟩
      show (if t' = d then _ else _) = _
      rw [if_neg (fun e => by subst e; rw [hlo] at hb; cases hb)]; exact hb
  · intro t' cs' ht'
    rw [lkl_cons] at ht'
    by_cases e : d = t'
    · subst e
      rw [if_pos rfl] at ht'
      cases ht'
      exact ⟨_, _, by simp, hnew, by have := hl.1; simp at this; omega, rfl, fun i x y hx hy => hl.2 i x y hx (by simpa using hy)⟩
    · rw [if_neg e] at ht'
      obtain ⟨b, ob, k1, k2, k3⟩ := hr.l t' cs' ht'
      refine ⟨b, ob, by show (if t' = d then _ else _) = _; rw [if_neg (fun x => e x.symm)]; exact k1, ?_, k3⟩
      rw [hp _ (hr.lout t' b k1).2.2]; exact k2
  · intro t' b ht'
    rw [lkl_cons]
    by_cases e : t' = d
    · exact ⟨cs, by rw [if_pos e.symm]⟩
    · replace ht' : (if t' = d then some w.heap.size else lo t') = some b := ht'
      rw [if_neg e] at ht'
      rw [if_neg (fun x => e x.symm)]
      exact hr.ldom t' b ht'
  · intro t' b ht'
    replace ht' : (if t' = d then some w.heap.size else lo t') = some b := ht'
    by_cases e : t' = d
    · rw [if_pos e] at ht'
      cases ht'
      refine ⟨fun i g hg => by have := hr.h.blk_lt hg; omega, ?_, by omega⟩
      cases hq : ρ.ro w.heap.size with
      | none => rfl
      | some x => have := hr.h.ro_lt hq; omega
    · rw [if_neg e] at ht'
      exact ⟨(hr.lout t' b ht').1, (hr.lout t' b ht').2.1, by have := (hr.lout t' b ht').2.2; omega⟩
  · intro t1 t2 b h1 h2
    replace h1 : (if t1 = d then some w.heap.size else lo t1) = some b := h1
    replace h2 : (if t2 = d then some w.heap.size else lo t2) = some b := h2
    by_cases e1 : t1 = d <;> by_cases e2 : t2 = d
    · rw [e1, e2]
    · rw [if_pos e1] at h1; rw [if_neg e2] at h2
      cases h1
      have := (hr.lout t2 _ h2).2.2; omega
    · rw [if_neg e1] at h1; rw [if_pos e2] at h2
      cases h2
      have := (hr.lout t1 _ h1).2.2; omega
    · rw [if_neg e1] at h1; rw [if_neg e2] at h2
      exact hr.linj t1 t2 b h1 h2
  · intro b hb k1 k2
    refine ⟨hp b hb, k1, fun t' => ?_, rfl⟩
    show (if t' = d then some w.heap.size else lo t') ≠ some b
    by_cases e : t' = d
    · rw [if_pos e]; intro h; cases h; omega
    · rw [if_neg e]; exact k2 t'

theorem newVar_sound {cs : List V} {c : Array Value} (hl : RelL ρ cs c.toList) {t : TypeId} (hr : RelA E.n ρ lo st a w) (hn : Owes E o st ρ lo w K r next)
    (hrun : (execOp a.eval o).run E.P w = .ok (.value (.pointer (some ⟨w.heap.size, 0, none⟩))) (pushed w (.cells c t)))
    (hq : quietL E o = !ownOf E o) (he : (match ownOf E o, o.dst with
      | true, some d => match lkl st.l d with
        | none => fin E o st K (.lp d 0) ((d, cs) :: st.l) st.h
        | some _ => none
      | _, _ => fin E o st K (.v (.ptr st.h.length 0 0)) st.l (st.h ++ [.cells 0 cs])) = some r) : o.wp E.P a w next Q := by
  split at he
  · rename_i d hown hd
    split at he
    · rename_i hlk
      obtain ⟨lo', h1, h2, h3⟩ := new_local hr hl t hlk
      exact upon_of hrun (fin_sound he h1 (x := .lp d 0) ⟨_, h3, rfl⟩ h2 hn (by rw [hq, hown]; simp))
    · cases he
  · obtain ⟨ρ', h1, h2, h3, _⟩ := new_heap hr hl t
    exact upon_of hrun (fin_sound he h1 (x := .v _) h3 h2 hn)

theorem alloc_sound {t : TypeId} (ho : o.op = .alloc t) (he : evOp E o st K = some r) (hr : RelA E.n ρ lo st a w) (hn : Owes E o st ρ lo w K r next) :
    o.wp E.P a w next Q := by
  unfold evOp at he
  simp only [ho, Option.bind_eq_some_iff] at he
  obtain ⟨cs, hcs, he⟩ := he
  obtain ⟨i, v, hi, hz, hc⟩ := zeroCells_inv hcs
  refine newVar_sound (cstVs_relL ρ hc) (t := t) hr hn ?_ (by simp [quietL, ho]) he
  unfold execOp
  simp [ho, Instr.alloc, run_zeroValue hi hz, newVar, newRow, pushed]

theorem box_sound {t : TypeId} {x : Operand} (ho : o.op = .box t x) (he : evOp E o st K = some r) (hr : RelA E.n ρ lo st a w) (hn : Owes E o st ρ lo w K r next) :
    o.wp E.P a w next Q := by
  unfold evOp at he
  simp only [ho] at he
  split at he
  · rename_i x' hx
    obtain ⟨xs, hl, hlen, he, hpos, u, hu⟩ := cellsAs_inv (opnd_v hr hx) he
    refine newVar_sound hl (t := t) hr hn ?_ (by simp [quietL, ho]) he
    unfold execOp
    simp [ho, Instr.box, newVar, newRow, pushed]
  · cases he

theorem argsK_inv (hr : RelA E.n ρ lo st a w) : ∀ {l : List Operand} {K' : List V → Option R}, argsK st l K' = some r →
    ∃ vs, vs.length = l.length ∧ (∀ (i : Nat) (v : V) (x : Operand), vs[i]? = some v → l[i]? = some x → RelV ρ v (a.eval x)) ∧ K' vs = some r
  | [], K', h => ⟨[], rfl, by simp, h⟩
  | x :: l, K', h => by
    simp only [argsK] at h
    split at h
    · rename_i v hv
      obtain ⟨vs, h1, h2, h3⟩ := argsK_inv hr h
      refine ⟨v :: vs, by simp [h1], fun i u y hu hy => ?_, h3⟩
      cases i with
      | zero => simp at hu hy; subst hu; subst hy; exact opnd_v hr hv
      | succ i => simp at hu hy; exact h2 i u y hu hy
    · rename_i v hv
      obtain ⟨vs, h1, h2, h3⟩ := argsK_inv hr h
      refine ⟨v :: vs, by simp [h1], fun i u y hu hy => ?_, h3⟩
      cases i with
      | zero =>
        simp at hu hy
        subst hu
        subst hy
        have := opnd_rel hr x
        rw [hv] at this
        exact this.1
      | succ i => simp at hu hy; exact h2 i u y hu hy
    · cases h

theorem args_rel {l : Array Operand} {vs : List V} (h1 : vs.length = l.toList.length) (h2 : ∀ (i : Nat) (v : V) (x : Operand), vs[i]? = some v → l.toList[i]? = some x → RelV ρ v (a.eval x)) :
    (l.map a.eval).size = vs.length ∧ ∀ (i : Nat) (v : V) (x : Value), vs[i]? = some v → (l.map a.eval)[i]? = some x → RelV ρ v x := by
  refine ⟨by simp [h1], fun i v x hv hx => ?_⟩
  simp only [Array.getElem?_map, Option.map_eq_some_iff] at hx
  obtain ⟨y, hy, rfl⟩ := hx
  exact h2 i v y hv (by simpa using hy)

theorem makeFunc_sound {f : FuncId} {first cap : Array Operand} (ho : o.op = .makeFunc (.func f) first cap) (he : evOp E o st K = some r) (hr : RelA E.n ρ lo st a w) (hn : Owes E o st ρ lo w K r next) :
    o.wp E.P a w next Q := by
  unfold evOp at he
  simp only [ho] at he
  split at he
  · rename_i hf
    obtain ⟨vs, h1, h2, he⟩ := argsK_inv hr he
    obtain ⟨h3, h4⟩ := args_rel h1 h2
    have hf' : first = #[] := by cases first; simp at hf; rw [hf]
    refine finV_sound he hr hn (y := .func (.func f) #[] (cap.map a.eval)) ?_ (.fn f vs _ h3 h4)
    unfold execOp
    simp [ho, Instr.makeFunc, hf']
  split at he
  · rename_i hc
    obtain ⟨vs, h1, h2, he⟩ := argsK_inv hr he
    obtain ⟨h3, h4⟩ := args_rel h1 h2
    have hc' : cap = #[] := by cases cap; simp at hc; rw [hc]
    refine finV_sound he hr hn (y := .func (.func f) (first.map a.eval) #[]) ?_ (.fnb f vs _ h3 h4)
    unfold execOp
    simp [ho, Instr.makeFunc, hc']
  · cases he

theorem makeMap_sound {t : TypeId} (ho : o.op = .makeMap t none) (he : evOp E o st K = some r) (hr : RelA E.n ρ lo st a w) (hn : Owes E o st ρ lo w K r next) :
    o.wp E.P a w next Q := by
  unfold evOp at he
  simp only [ho] at he
  have hro : RelO ρ ⟨w.heap.size, 0, 0⟩ (.map 0 [] []) (.map #[] 0) := ⟨⟨rfl, rfl⟩, rfl, by simp⟩
  obtain ⟨hh, hs⟩ := add_rel (o := .map 0 [] []) hr.h (w' := pushed w (.map #[] 0)) ⟨rfl, rfl, rfl⟩ rfl hro
  obtain ⟨h1, h2⟩ := hr.lift hh hs
  refine upon_of (v := .map (some w.heap.size)) (w' := pushed w (.map #[] 0)) ?_ (fin_sound he h1 ?_ h2 hn)
  · unfold execOp
    simp [ho, Instr.makeMap, pushed]
  · have hn := hr.h.n
    refine .map _ _ (by simp [Ren.add, hn]) fun g hv hg => ?_
    simp [Ren.add, hn] at hg
    subst hg
    rfl

theorem repeatC_length (z : List V) : ∀ n, (repeatC n z).length = n * z.length
  | 0 => by simp [repeatC]
  | n + 1 => by simp [repeatC, repeatC_length z n, Nat.add_mul]; omega

theorem repeatC_get (z : List V) (hz : 0 < z.length) : ∀ n i, i < n * z.length → (repeatC n z)[i]? = z[i % z.length]?
  | 0, i, h => by simp at h
  | n + 1, i, h => by
    simp only [repeatC]
    by_cases h1 : i < z.length
    · rw [List.getElem?_append_left h1, Nat.mod_eq_of_lt h1]
    · have e1 : i % z.length = (i - z.length) % z.length := Nat.mod_eq_sub_mod (by omega)
      rw [Nat.add_mul, Nat.one_mul] at h
      rw [List.getElem?_append_right (by omega), repeatC_get z hz n (i - z.length) (by omega), e1]

theorem zeros_rel {z : List V} {zs : Array Value} (hl : RelL ρ z zs.toList) (hz : 0 < z.length) (n : Nat) :
    RelL ρ (repeatC n z) ((Array.range (n * z.length)).map (fun i => zs[i % zs.size]!)).toList := by
  have hsz : zs.size = z.length := by rw [hl.1]; simp
  refine ⟨by simp [repeatC_length], fun i v y hv hy => ?_⟩
  have hi : i < n * z.length := by rw [← repeatC_length]; exact (List.getElem?_eq_some_iff.1 hv).1
  rw [repeatC_get z hz n i hi] at hv
  have hm : i % z.length < zs.size := by rw [hsz]; exact Nat.mod_lt _ hz
  have : y = zs[i % z.length] := by
    simp [hi, hsz] at hy
    rw [← hy, getElem!_pos zs (i % z.length) hm]
  subst this
  exact hl.2 (i % z.length) v _ hv (by simp [hm])

end ops
end
end Go.L

namespace Go.L
noncomputable section

section ops
variable {R : Type} {E : Env} {o : Oper} {st : St} {K : St → Option R} {r : R} {ρ : Ren} {lo : Nat → Option Nat} {a : Act} {w : World}
  {next : Act → World → Prop} {Q : Exit → Act → World → Prop}

theorem foldl_set (ys : List Value) : ∀ (k off : Nat) (c : Array Value), (ys.zipIdx k).foldl (fun cs (p : Value × Nat) => cs.setIfInBounds (off + p.2) p.1) c =
    (ys.zipIdx 0).foldl (fun cs (p : Value × Nat) => cs.setIfInBounds (off + k + p.2) p.1) c := by
  induction ys with
  | nil => intro k off c; rfl
  | cons y ys ih =>
    intro k off c
    simp only [List.zipIdx_cons, List.foldl_cons, Nat.add_zero]
    rw [ih (k + 1) off, ih (0 + 1) (off + k)]
    simp only [Nat.zero_add, Nat.add_assoc]

theorem fold_get (ys : List Value) : ∀ (off : Nat) (c : Array Value) (j : Nat), off + ys.length ≤ c.size →
    ((ys.zipIdx 0).foldl (fun cs (p : Value × Nat) => cs.setIfInBounds (off + p.2) p.1) c)[j]? = if j < off then c[j]? else if j < off + ys.length then ys[j - off]? else c[j]? := by
  induction ys with
  | nil => intro off c j _; simp; intro h1 h2; omega
  | cons y ys ih =>
    intro off c j h
    simp only [List.zipIdx_cons, List.foldl_cons, Nat.add_zero, List.length_cons] at h ⊢
    rw [foldl_set, ih (off + (0 + 1)) _ j (by simp; omega)]
    simp only [Nat.zero_add, Array.getElem?_setIfInBounds]
    by_cases h1 : j < off
    · rw [if_pos (by omega), if_neg (by omega), if_pos h1]
    · rw [if_neg h1]
      by_cases h2 : off = j
      · subst h2
        rw [if_pos (by omega), if_pos rfl, if_pos (by omega), if_pos (by omega)]
        simp
      · rw [if_neg h2, if_neg (by omega)]
        by_cases h3 : j < off + (ys.length + 1)
        · rw [if_pos (by omega), if_pos h3]
          have : j - off = (j - (off + 1)) + 1 := by omega
          rw [this]; simp
        · rw [if_neg (by omega), if_neg h3]

theorem fold_size (ys : List Value) : ∀ (off : Nat) (c : Array Value), ((ys.zipIdx 0).foldl (fun cs (p : Value × Nat) => cs.setIfInBounds (off + p.2) p.1) c).size = c.size := by
  induction ys with
  | nil => intro off c; rfl
  | cons y ys ih =>
    intro off c
    simp only [List.zipIdx_cons, List.foldl_cons]
    rw [foldl_set, ih]; simp

theorem fold_rel {cs : List V} {c : Array Value} (hc : RelL ρ cs c.toList) {xs : List V} {ys : List Value} (hl : RelL ρ xs ys) {off : Nat} (hle : off + xs.length ≤ cs.length) :
    RelL ρ (splice cs off xs) ((ys.zipIdx 0).foldl (fun cs (p : Value × Nat) => cs.setIfInBounds (off + p.2) p.1) c).toList := by
  have hlen := hc.1
  have hxy := hl.1
  simp at hlen
  refine ⟨by rw [splice_length cs off xs hle]; simp [fold_size, hlen], fun i v y hv hy => ?_⟩
  rw [splice_get cs off xs i hle] at hv
  rw [Array.getElem?_toList, fold_get ys off c i (by omega)] at hy
  by_cases h1 : i < off
  · rw [if_pos h1] at hv hy
    exact hc.2 i v y hv (by simpa using hy)
  · rw [if_neg h1] at hv hy
    by_cases h2 : i < off + xs.length
    · rw [if_pos h2] at hv
      rw [if_pos (by omega)] at hy
      exact hl.2 _ v y hv hy
    · rw [if_neg h2] at hv
      rw [if_neg (by omega)] at hy
      exact hc.2 i v y hv (by simpa using hy)

theorem opnd_adr (hr : RelA E.n ρ lo st a w) {c : Operand} {v : V} (hc : adrOf (st.opnd c) = some v) : RelV ρ v (a.eval c) := by
  have := opnd_rel hr c
  cases hx : st.opnd c with
  | v x => rw [hx] at hc this; cases hc; exact this
  | p x => rw [hx] at hc this; cases hc; exact this.1
  | _ => rw [hx] at hc; cases hc

theorem buildS_inv (hr : RelA E.n ρ lo st a w) {place : Nat → Option (Nat × TypeId)} : ∀ {l : List (Nat × Operand)} {cs : List V} {c : Array Value} {K' : List V → Option R},
    RelL ρ cs c.toList → buildS E place st l cs K' = some r →
    ∃ cs' c', Instr.fill (fun i => (place i).map fun p => (p.1, E.P.cellsOf p.2)) c (l.map fun p => (p.1, a.eval p.2)) = some c' ∧ RelL ρ cs' c'.toList ∧ cs'.length = cs.length ∧ K' cs' = some r
  | [], cs, c, K', hc, h => ⟨cs, c, rfl, hc, rfl, h⟩
  | (i, x) :: l, cs, c, K', hc, h => by
    simp only [buildS] at h
    split at h
    · rename_i off t v hp hv
      obtain ⟨xs, hl, hlen, h, hpos, _⟩ := cellsAs_inv (opnd_adr hr hv) h
      split at h
      · rename_i hle
        have hsz : (a.eval x).cells.size = xs.length := by rw [hl.1]; simp
        have hcl : cs.length = c.size := by rw [hc.1]; simp
        obtain ⟨cs', c', h1, h2, h3, h4⟩ := buildS_inv hr (fold_rel hc hl hle) h
        refine ⟨cs', c', ?_, h2, by rw [h3, splice_length cs off xs hle], h4⟩
        simp only [List.map_cons, Instr.fill, hp, Option.map_some]
        rw [if_neg (by simp only [hsz, hlen, ne_eq, not_true, decide_false, Bool.false_or]; simp; omega)]
        rw [← h1]
        congr 1
        rw [← Array.foldl_toList]
        simp [Array.toList_zipIdx]
      · cases h
    · cases h

theorem places_run {P : Program} {fs : Array Field} (h : fs.toList.all (fun f => decide (P.cellsOf f.type ≠ 0)) = true) (w : World) :
    (fs.mapM (fun f => do pure (f.offset, ← sizeOf f.type) : Field → Sem (Nat × Nat))).run P w = .ok (fs.map fun f => (f.offset, P.cellsOf f.type)) w := by
  have key : ∀ l : List Field, l.all (fun f => decide (P.cellsOf f.type ≠ 0)) = true →
      (l.mapM (fun f => do pure (f.offset, ← sizeOf f.type) : Field → Sem (Nat × Nat))).run P w = .ok (l.map fun f => (f.offset, P.cellsOf f.type)) w := by
    intro l hl
    induction l with
    | nil => rfl
    | cons f l ih =>
      simp only [List.all_cons, Bool.and_eq_true, decide_eq_true_eq] at hl
      simp only [List.mapM_cons, Sem.run_bind, run_sizeOf_ne hl.1, Result.andThen_ok, Sem.run_pure, ih hl.2, List.map_cons]
  rw [Array.mapM_eq_mapM_toList, Sem.run_map, key fs.toList h]
  simp only [Result.andThen_ok]
  congr 1
  apply Array.ext'
  simp

theorem build_sound {t : TypeId} {parts : Array (Nat × Operand)} (ho : o.op = .build t parts) (he : evOp E o st K = some r) (hr : RelA E.n ρ lo st a w) (hn : Owes E o st ρ lo w K r next) :
    o.wp E.P a w next Q := by
  unfold evOp at he
  simp only [ho] at he
  split at he
  · rename_i hok
    simp only [Option.bind_eq_some_iff] at he
    obtain ⟨zs, hzs, he⟩ := he
    obtain ⟨i, v, hi, hz, hc⟩ := zeroCells_inv hzs
    obtain ⟨cs', c', h1, h2, h3, he⟩ := buildS_inv hr (c := v.cells) (cstVs_relL ρ hc) he
    refine finV_sound he hr hn (y := .agg c') ?_ (by simpa using h2.agg)
    unfold partsOk at hok
    have hm : (parts.map fun (p : Nat × Operand) => (p.1, a.eval p.2)).toList = parts.toList.map fun p => (p.1, a.eval p.2) := by simp
    split at hok
    · rename_i fs hu
      have hpl : (fun i => (placeOf E.P t i).map fun p => (p.1, E.P.cellsOf p.2)) = fun i => (fs.map fun f => (f.offset, E.P.cellsOf f.type))[i]? := by
        funext i
        simp [placeOf, hu, Function.comp_def]
      rw [hpl] at h1
      unfold execOp
      simp only [ho, Instr.build, Sem.run_bind, run_zeroValue hi hz, Result.andThen_ok, run_underlying hu, places_run hok]
      rw [hm, h1]
      rfl
    · rename_i n e hu
      have hne : E.P.cellsOf e ≠ 0 := by simpa using hok
      have hpl : (fun i => (placeOf E.P t i).map fun p => (p.1, E.P.cellsOf p.2)) = fun i => some (i * E.P.cellsOf e, E.P.cellsOf e) := by
        funext i
        simp [placeOf, hu]
      rw [hpl] at h1
      unfold execOp
      simp only [ho, Instr.build, Sem.run_bind, run_zeroValue hi hz, Result.andThen_ok, run_underlying hu, run_sizeOf_ne hne]
      rw [hm, h1]
      rfl
    · cases hok
  · cases he

theorem elemOf_inv {P : Program} {t e : TypeId} (h : elemOf P t = some e) : P.underlying t = some (.slice e) := by
  unfold elemOf at h
  split at h
  · rename_i e' hu; cases h; exact hu
  · cases h

theorem new_ro (hr : RelA E.n ρ lo st a w) {cs : List V} {c : Array Value} (hl : RelL ρ cs c.toList) (t : TypeId) {len es : Nat} (hes : es ≠ 0) (hlen : cs.length = len * es)
    {rc : Nat} (hrc : len ≤ rc) :
    ∃ ρ', RelA E.n ρ' lo ⟨st.s, st.l, st.h⟩ a (pushed w (.cells c t)) ∧ Step ρ lo w ρ' lo (pushed w (.cells c t)) ∧
      RelV ρ' (.rs es (chunks es len cs)) (.slice (some ⟨w.heap.size, 0, none⟩) len rc) := by
  obtain ⟨hh, hs⟩ := addRo_rel (ob := .cells c t (0, 0)) hr.h (w' := pushed w (.cells c t)) ⟨rfl, rfl, rfl⟩ rfl
  obtain ⟨h1, h2⟩ := hr.lift hh hs
  refine ⟨_, h1, h2, ?_⟩
  have hcl : cs.length = c.size := by rw [hl.1]; simp
  have hk := chunks_length es len cs
  have hle := hs.le
  have hcell : ∀ (k : Nat) (y : Value), c[k]? = some y → ∃ v, cs[k]? = some v ∧ RelV ρ v y ∧ y.oneCell' = true := by
    intro k y hy
    have hk' : k < cs.length := by rw [hcl]; exact (Array.getElem?_eq_some_iff.1 hy).1
    exact ⟨cs[k], List.getElem?_eq_getElem hk', hl.2 k _ y (List.getElem?_eq_getElem hk') (by simpa using hy)⟩
  have key := RelV.rs (ρ := ρ.addRo w.heap.size (.cells c t (0, 0))) es (chunks es len cs) w.heap.size 0 c t (0, 0) rc (by omega)
    (by simp [Ren.addRo]) (by rw [hk]; omega) ?_ ?_ ?_
  · rw [hk] at key; exact key
  · intro v hv
    obtain ⟨i, hi⟩ := List.getElem?_of_mem hv
    obtain ⟨hin, hve⟩ := chunks_get _ _ _ _ _ hi
    have hm : (i + 1) * es ≤ len * es := Nat.mul_le_mul_right _ hin
    rw [Nat.add_mul, Nat.one_mul] at hm
    by_cases e1 : es = 1
    · subst e1
      simp only [Nat.mul_one, if_true] at hve
      have hi2 : i < c.size := by omega
      obtain ⟨v2, hv2, hr2, ho2⟩ := hcell i c[i] (Array.getElem?_eq_getElem hi2)
      have : v = v2 := by rw [hve, List.headD_eq_head?_getD, List.head?_drop, hv2]; rfl
      subst this
      rw [cells_of_one hr2 ho2]; rfl
    · rw [if_neg e1] at hve
      subst hve
      simp [V.cells]; omega
  · intro i v j y x hi hj hx
    obtain ⟨hin, hve⟩ := chunks_get _ _ _ _ _ hi
    have hm : (i + 1) * es ≤ len * es := Nat.mul_le_mul_right _ hin
    rw [Nat.add_mul, Nat.one_mul] at hm
    rw [Nat.zero_add] at hx
    by_cases e1 : es = 1
    · subst e1
      simp only [Nat.mul_one, if_true] at hve hx
      have hi2 : i < c.size := by omega
      obtain ⟨v2, hv2, hr2, ho2⟩ := hcell i c[i] (Array.getElem?_eq_getElem hi2)
      have : v = v2 := by rw [hve, List.headD_eq_head?_getD, List.head?_drop, hv2]; rfl
      subst this
      rw [cells_of_one hr2 ho2] at hj
      cases j with
      | zero =>
        simp at hj; subst hj
        rw [Nat.add_zero, Array.getElem?_eq_getElem hi2] at hx
        cases hx
        exact RelV.mono hle hr2
      | succ j => simp at hj
    · rw [if_neg e1] at hve
      subst hve
      simp only [V.cells] at hj
      rw [List.getElem?_take] at hj
      split at hj
      · rw [List.getElem?_drop] at hj
        obtain ⟨v2, hv2, hr2, ho2⟩ := hcell (i * es + j) x hx
        have : y = v2 := by rw [hv2] at hj; cases hj; rfl
        subst this
        exact RelV.mono hle hr2
      · cases hj
  · intro k y hk hy
    rw [Nat.zero_add] at hy
    exact (hcell k y hy).choose_spec.2.2

theorem buildSlice_sound {t : TypeId} {len : Nat} {parts : Array (Nat × Operand)} (ho : o.op = .buildSlice t len parts) (he : evOp E o st K = some r) (hr : RelA E.n ρ lo st a w) (hn : Owes E o st ρ lo w K r next) :
    o.wp E.P a w next Q := by
  unfold evOp at he
  simp only [ho, Option.bind_eq_some_iff] at he
  obtain ⟨e, hel, z, hz0, he⟩ := he
  have hu := elemOf_inv hel
  obtain ⟨i, v, hi, hz, hc⟩ := zeroCells_inv hz0
  split at he
  · rename_i hbig
    split at he
    · cases he
    · rename_i hne
      split at he
      · rename_i hzl
        have hzr := cstVs_relL ρ hc
        have hzp : 0 < z.length := by omega
        have hzs := zeros_rel hzr hzp len
        obtain ⟨cs', c', h1, h2, h3, he⟩ := buildS_inv hr (c := (Array.range (len * z.length)).map (fun i => v.cells[i % v.cells.size]!)) hzs he
        rw [repeatC_length] at h3
        have hrun : (execOp a.eval o).run E.P w = .ok (.value (.slice (some ⟨w.heap.size, 0, none⟩) len len)) (pushed w (.cells c' e)) := by
          have hm : (parts.map fun (p : Nat × Operand) => (p.1, a.eval p.2)).toList = parts.toList.map fun p => (p.1, a.eval p.2) := by simp
          have hpl : (fun i => (some (i * E.P.cellsOf e, e)).map fun p => (p.1, E.P.cellsOf p.2)) = fun i => some (i * E.P.cellsOf e, E.P.cellsOf e) := rfl
          rw [hpl] at h1
          unfold execOp
          simp only [ho, Instr.buildSlice, Sem.run_bind, run_underlying hu, Result.andThen_ok, run_sizeOf_ne hne]
          rw [if_neg (by omega)]
          by_cases h00 : len * E.P.cellsOf e = 0
          · have h01 : len * z.length = 0 := by rw [hzl]; exact h00
            rw [h01] at h1
            rw [if_pos h00, h00]
            have hr0 : Array.range 0 = #[] := rfl
            simp only [pure_bind, hm]
            rw [hr0] at h1 ⊢
            simp only [List.map_toArray, List.map_nil] at h1 ⊢
            rw [h1]
            simp [newRow, pushed]
          · have h01 : len * z.length = len * E.P.cellsOf e := by rw [hzl]
            rw [h01] at h1
            rw [if_neg h00]
            simp only [pure_bind, Sem.run_bind, run_zeroValue hi hz, Result.andThen_ok, hm, h1]
            simp [newRow, pushed]
        split at he
        · obtain ⟨ρ', g1, g2, g3⟩ := new_ro hr h2 e hne (by rw [h3, hzl]) (Nat.le_refl len)
          exact upon_of hrun (fin_sound he g1 (x := .v _) g3 g2 hn)
        · obtain ⟨ρ', g1, g2, _, g4⟩ := new_heap hr h2 e
          refine upon_of hrun (fin_sound he g1 (x := .v _) ?_ g2 hn)
          exact g4 len _ (by rw [h3, hzl]; omega) (some len) (fun c hc' => by cases hc'; exact ⟨Nat.le_refl _, by rw [h3, hzl]; omega⟩) len (Nat.le_refl _) (by rw [h3, hzl]; omega) (fun c hc' => by cases hc'; rfl)
      · cases he
  · cases he

theorem replicate_chunks (es : Nat) (z : List V) (hz : z.length = es) : ∀ n, List.replicate n (if es = 1 then z.headD default else V.agg z) = chunks es n (repeatC n z)
  | 0 => rfl
  | n + 1 => by
    simp only [List.replicate_succ, chunks, repeatC]
    rw [replicate_chunks es z hz n]
    congr 1
    · split
      · rename_i h1
        match z, hz with
        | [x], _ => rfl
        | [], h => simp at h; omega
        | x :: y :: r, h => simp at h; omega
      · rw [List.take_append_of_le_length (by omega), ← hz, List.take_length]
    · rw [List.drop_append_of_le_length (by omega), ← hz, List.drop_length, List.nil_append]

theorem makeSlice_sound {t : TypeId} {l c : Operand} (ho : o.op = .makeSlice t l c) (he : evOp E o st K = some r) (hr : RelA E.n ρ lo st a w) (hn : Owes E o st ρ lo w K r next) :
    o.wp E.P a w next Q := by
  unfold evOp at he
  simp only [ho] at he
  split at he
  · rename_i lv cv e hl hcv hel
    have hlv := opnd_int hr hl
    have hcvv := opnd_int hr hcv
    have hu := elemOf_inv hel
    simp only [Option.bind_eq_some_iff] at he
    obtain ⟨z, hz0, he⟩ := he
    obtain ⟨i, v, hi, hz, hc⟩ := zeroCells_inv hz0
    split at he
    · cases he
    · rename_i hne
      split at he
      · rename_i hzl
        split at he
        · rename_i hbytes
          split at he
          · rename_i h0
            split at he
            · rename_i hlc
              split at he
              · rename_i hbig
                have hzr := cstVs_relL ρ hc
                have hzp : 0 < z.length := by omega
                have hzs := zeros_rel hzr hzp cv.toNat
                have hb : E.P.bytesOf e = i.bytes := by simp [Program.bytesOf, hi]
                have hcs : E.P.cellsOf e = i.size := by simp [Program.cellsOf, hi]
                have hcap : cv ≤ mostCells := by
                  have h1 : cv * 1 ≤ cv * E.P.cellsOf e := Int.mul_le_mul_of_nonneg_left (by omega) (by omega)
                  omega
                have hroom : (i.bytes : Int) * cv ≤ 2 ^ 48 := by
                  have h1 : (i.bytes : Int) * cv ≤ (E.P.cellsOf e * 64 : Nat) * cv := Int.mul_le_mul_of_nonneg_right (by omega) (by omega)
                  have h2 : ((E.P.cellsOf e * 64 : Nat) : Int) * cv = 64 * (cv * E.P.cellsOf e) := by
                    rw [Int.natCast_mul, Int.mul_assoc, Int.mul_comm, Int.mul_assoc]; rfl
                  have h3 : (64 : Int) * (cv * E.P.cellsOf e) ≤ 64 * mostCells := by omega
                  have h4 : (64 : Int) * mostCells ≤ 2 ^ 48 := by decide
                  omega
                have hm : (mostCells : Int) = 4294967296 := by decide
                have hw : ∀ n : Int, 0 ≤ n → n ≤ mostCells → IntKind.i64.wrap n = n := by
                  intro n g1 g2
                  exact IntWalk.i64_in n ⟨by omega, by omega⟩
                have hrun : (execOp a.eval o).run E.P w = .ok (.value (.slice (some ⟨w.heap.size, 0, none⟩) lv.toNat cv.toNat)) (pushed w (.cells ((Array.range (cv.toNat * z.length)).map (fun i => v.cells[i % v.cells.size]!)) e)) := by
                  unfold execOp
                  simp only [ho, Instr.makeSlice, Sem.run_bind, run_underlying hu, Result.andThen_ok, hlv, hcvv, Go.asInt, asIntOf, Sem.run_pure, run_typeInfo hi, hw lv h0 (by omega), hw cv (by omega) hcap]
                  rw [if_neg (by simp; omega)]
                  simp only [Sem.run_bind, Result.andThen_ok, run_askRoom, run_sizeOf_ne hne]
                  by_cases h00 : cv.toNat * E.P.cellsOf e = 0
                  · have h01 : cv.toNat * z.length = 0 := by rw [hzl]; exact h00
                    have hr0 : Array.range 0 = #[] := rfl
                    simp [h00, h01, hr0, newRow, pushed]
                  · have h01 : cv.toNat * z.length = cv.toNat * E.P.cellsOf e := by rw [hzl]
                    rw [if_neg h00, h01]
                    simp [run_zeroValue hi hz, newRow, pushed]
                split at he
                · split at he
                  · rename_i hlceq
                    subst hlceq
                    obtain ⟨ρ', g1, g2, g3⟩ := new_ro hr hzs e hne (len := lv.toNat) (by rw [repeatC_length, hzl]) (Nat.le_refl lv.toNat)
                    rw [← replicate_chunks _ z hzl] at g3
                    exact upon_of hrun (fin_sound he g1 (x := .v _) g3 g2 hn)
                  · cases he
                · split at he
                  · obtain ⟨ρ', g1, g2, _, g4⟩ := new_heap hr hzs e
                    refine upon_of hrun (fin_sound he g1 (x := .v _) ?_ g2 hn)
                    have hmul : lv.toNat * E.P.cellsOf e ≤ cv.toNat * E.P.cellsOf e := Nat.mul_le_mul_right _ (by omega)
                    exact g4 lv.toNat _ (by rw [repeatC_length, hzl]; exact hmul) (some cv.toNat) (fun c hc' => by cases hc'; exact ⟨by omega, by rw [repeatC_length, hzl]; omega⟩) cv.toNat (by omega) (by rw [repeatC_length, hzl]; omega) (fun c hc' => by cases hc'; rfl)
                  obtain ⟨h', hfl, he⟩ := Option.bind_eq_some_iff.1 he
                  obtain ⟨ρ', g1, g2, g4⟩ := new_fill hr hzs e hfl
                  refine upon_of hrun (fin_sound he g1 (x := .v _) ?_ g2 hn)
                  have hmul : lv.toNat * E.P.cellsOf e ≤ cv.toNat * E.P.cellsOf e := Nat.mul_le_mul_right _ (by omega)
                  exact g4 lv.toNat _ (by rw [repeatC_length, hzl]; exact hmul) (some cv.toNat) (fun c hc' => by cases hc'; exact ⟨by omega, by rw [repeatC_length, hzl]; omega⟩) cv.toNat (by omega) (by rw [repeatC_length, hzl]; omega) (fun c hc' => by cases hc'; rfl)
              · cases he
            · cases he
          · cases he
        · cases he
      · cases he
  · cases he

end ops
end
end Go.L

namespace Go.L
noncomputable section

section ops
variable {R : Type} {E : Env} {o : Oper} {st : St} {K : St → Option R} {r : R} {ρ : Ren} {lo : Nat → Option Nat} {a : Act} {w : World}
  {next : Act → World → Prop} {Q : Exit → Act → World → Prop}

theorem conv_sound {src dst : TypeId} {x : Operand} (ho : o.op = .convert src dst x) (he : (match st.opnd x with
      | .v x => convS E.P src dst x (finV E o st K)
      | _ => none) = some r) (hr : RelA E.n ρ lo st a w) (hn : Owes E o st ρ lo w K r next) :
    o.wp E.P a w next Q := by
  split at he
  · rename_i v hc
    have hx := opnd_v hr hc
    generalize hy : a.eval x = y at hx
    unfold convS at he
    split at he
    · rename_i u k k' n hu hd
      cases hx
      refine finV_sound he hr hn (y := .int k (k.wrap n)) ?_ (.int _ _)
      unfold execOp
      simp [ho, hy, convert, run_underlying hu, run_underlying hd, Conv.intToInt]
    · rename_i u k k' n hu hd
      cases hx
      refine finV_sound he hr hn (y := .float k (k.nearest n)) ?_ (.float _ _)
      unfold execOp
      simp [ho, hy, convert, run_underlying hu, run_underlying hd, Conv.intToFloat]
    · rename_i u k s b hu hd
      cases hx
      simp only [Option.bind_eq_some_iff] at he
      obtain ⟨n, hn', he⟩ := he
      refine finV_sound he hr hn (y := .int k n) ?_ (.int _ _)
      unfold f2i at hn'
      split at hn'
      · rename_i m hm
        split at hn'
        · rename_i hb
          cases hn'
          unfold execOp
          simp [ho, hy, convert, run_underlying hu, run_underlying hd, Conv.floatToInt, hm, hb]
        · cases hn'
      · cases hn'
    · rename_i u s hu hd
      cases hx
      refine finV_sound he hr hn (y := .string s) ?_ (.str _)
      unfold execOp
      simp [ho, hy, convert, run_underlying hu, run_underlying hd]
    · cases he
  · cases he

def plainV (v : Value) : Bool :=
  match v with
  | .agg _ | .nilIface => false
  | _ => true

theorem eqGuard_run {P : Program} {op : BinOp} {t : TypeId} {x y : Operand} {u v : Value} (h : plainV u = true) (w : World) : (eqGuard op t x y u v).run P w = .ok () w := by
  cases u <;> first | (simp [plainV] at h; done) | (cases op <;> simp [eqGuard])

theorem binOp_run {op : BinOp} {t t' : TypeId} {x y : Operand} {u v z : Value} (ho : o.op = .binOp op t x y t') (hx : a.eval x = u) (hy : a.eval y = v) (hp : plainV u = true)
    (h : (binOp op t u v).run E.P w = .ok z w) : (execOp a.eval o).run E.P w = .ok (.value z) w := by
  unfold execOp
  simp only [ho, hx, hy, Sem.run_bind, eqGuard_run hp, Result.andThen_ok, h, Sem.run_pure]

theorem intBin_sound {op : BinOp} {t t' : TypeId} {x y : Operand} {k : IntKind} {m n : Int} (ho : o.op = .binOp op t x y t') (hx : a.eval x = .int k m) (hy : a.eval y = .int k n)
    (he : intBin op k m n (finV E o st K) = some r) (hr : RelA E.n ρ lo st a w) (hn : Owes E o st ρ lo w K r next) : o.wp E.P a w next Q := by
  cases op <;> simp only [intBin] at he
  case quo =>
    split at he
    · cases he
    · rename_i h0
      exact finV_sound he hr hn (binOp_run ho hx hy rfl (by simp [binOp, Op.intDiv, h0])) (.int _ _)
  case rem =>
    split at he
    · cases he
    · rename_i h0
      exact finV_sound he hr hn (binOp_run ho hx hy rfl (by simp [binOp, Op.intDiv, h0])) (.int _ _)
  case shl => cases he
  case shr => cases he
  case add => exact finV_sound he hr hn (binOp_run ho hx hy rfl (by simp [binOp, Op.intArith])) (.int _ _)
  case sub => exact finV_sound he hr hn (binOp_run ho hx hy rfl (by simp [binOp, Op.intArith])) (.int _ _)
  case mul => exact finV_sound he hr hn (binOp_run ho hx hy rfl (by simp [binOp, Op.intArith])) (.int _ _)
  case and => exact finV_sound he hr hn (binOp_run ho hx hy rfl (by simp [binOp, Op.intBits])) (.int _ _)
  case or => exact finV_sound he hr hn (binOp_run ho hx hy rfl (by simp [binOp, Op.intBits])) (.int _ _)
  case xor => exact finV_sound he hr hn (binOp_run ho hx hy rfl (by simp [binOp, Op.intBits])) (.int _ _)
  case andNot => exact finV_sound he hr hn (binOp_run ho hx hy rfl (by simp [binOp, Op.intBits])) (.int _ _)
  all_goals exact finV_sound he hr hn (binOp_run ho hx hy rfl (by simp [binOp, Op.intCmp])) (.bool _)

theorem shift_sound {op : BinOp} {t t' : TypeId} {x y : Operand} {k k' : IntKind} {m n : Int} (ho : o.op = .binOp op t x y t') (hop : op = .shl ∨ op = .shr) (hx : a.eval x = .int k m) (hy : a.eval y = .int k' n)
    (he : shiftBin op k m n (finV E o st K) = some r) (hr : RelA E.n ρ lo st a w) (hn : Owes E o st ρ lo w K r next) : o.wp E.P a w next Q := by
  rcases hop with rfl | rfl <;> simp only [shiftBin] at he <;> split at he
  · cases he
  · rename_i h0
    exact finV_sound he hr hn (binOp_run ho hx hy rfl (by simp [binOp, Op.shift, h0])) (.int _ _)
  · cases he
  · rename_i h0
    exact finV_sound he hr hn (binOp_run ho hx hy rfl (by simp [binOp, Op.shift, h0])) (.int _ _)

theorem strBin_sound {op : BinOp} {t t' : TypeId} {x y : Operand} {m n : ByteArray} (ho : o.op = .binOp op t x y t') (hx : a.eval x = .string m) (hy : a.eval y = .string n)
    (he : strBin op m n (finV E o st K) = some r) (hr : RelA E.n ρ lo st a w) (hn : Owes E o st ρ lo w K r next) : o.wp E.P a w next Q := by
  cases op <;> simp only [strBin] at he
  case add =>
    split at he
    · rename_i hle
      have hb : mostBytes = 4611686018427387904 := rfl
      have hc : (m.size : Int) + (n.size : Int) ≤ 9223372036854775807 := by omega
      refine finV_sound he hr hn (binOp_run ho hx hy rfl ?_) (.str _)
      simp [binOp, Op.stringOp, hc]
    · cases he
  case eql => exact finV_sound he hr hn (binOp_run ho hx hy rfl (by simp [binOp, Op.stringOp])) (.bool _)
  case neq => exact finV_sound he hr hn (binOp_run ho hx hy rfl (by simp [binOp, Op.stringOp])) (.bool _)
  case lss => exact finV_sound he hr hn (binOp_run ho hx hy rfl (by simp [binOp, Op.stringOp])) (.bool _)
  case leq => exact finV_sound he hr hn (binOp_run ho hx hy rfl (by simp [binOp, Op.stringOp])) (.bool _)
  case gtr => exact finV_sound he hr hn (binOp_run ho hx hy rfl (by simp [binOp, Op.stringOp])) (.bool _)
  case geq => exact finV_sound he hr hn (binOp_run ho hx hy rfl (by simp [binOp, Op.stringOp])) (.bool _)
  all_goals cases he

theorem floatBin_sound {op : BinOp} {t t' : TypeId} {x y : Operand} {k : FloatKind} {m n : Nat} (ho : o.op = .binOp op t x y t') (hx : a.eval x = .float k m) (hy : a.eval y = .float k n)
    (he : floatBin op k m n (finV E o st K) = some r) (hr : RelA E.n ρ lo st a w) (hn : Owes E o st ρ lo w K r next) : o.wp E.P a w next Q := by
  cases op <;> simp only [floatBin, Option.bind_eq_some_iff] at he
  case add =>
    obtain ⟨z, hz, he⟩ := he
    exact finV_sound he hr hn (binOp_run ho hx hy rfl (by simp [binOp, Op.floatArith, hz])) (.float _ _)
  case sub =>
    obtain ⟨z, hz, he⟩ := he
    exact finV_sound he hr hn (binOp_run ho hx hy rfl (by simp [binOp, Op.floatArith, hz])) (.float _ _)
  case mul =>
    obtain ⟨z, hz, he⟩ := he
    exact finV_sound he hr hn (binOp_run ho hx hy rfl (by simp [binOp, Op.floatArith, hz])) (.float _ _)
  case quo =>
    obtain ⟨z, hz, he⟩ := he
    exact finV_sound he hr hn (binOp_run ho hx hy rfl (by simp [binOp, Op.floatArith, hz])) (.float _ _)
  case eql => exact finV_sound he hr hn (binOp_run ho hx hy rfl (by simp [binOp, Op.floatCmp])) (.bool _)
  case neq => exact finV_sound he hr hn (binOp_run ho hx hy rfl (by simp [binOp, Op.floatCmp])) (.bool _)
  case lss => exact finV_sound he hr hn (binOp_run ho hx hy rfl (by simp [binOp, Op.floatCmp])) (.bool _)
  case leq => exact finV_sound he hr hn (binOp_run ho hx hy rfl (by simp [binOp, Op.floatCmp])) (.bool _)
  case gtr => exact finV_sound he hr hn (binOp_run ho hx hy rfl (by simp [binOp, Op.floatCmp])) (.bool _)
  case geq => exact finV_sound he hr hn (binOp_run ho hx hy rfl (by simp [binOp, Op.floatCmp])) (.bool _)
  all_goals cases he

theorem leafEq_int {P : Program} {t : TypeId} {k : IntKind} {x y : V} {u v : Value} (hx : RelV ρ x u) (hy : RelV ρ y v) {b : Bool} (h : leafEq (.int k) x y = some b)
    (hu : P.underlying t = some (.int k)) (d : Nat) (w : World) : (Op.equalIn (d + 1) t u v).run P w = .ok b w := by
  cases x <;> cases y <;> simp [leafEq] at h
  obtain ⟨h1, h2⟩ := h
  subst h1; subst h2
  cases hx; cases hy
  simp [Op.equalIn, run_underlying hu]

theorem leafEq_bool {P : Program} {t : TypeId} {x y : V} {u v : Value} (hx : RelV ρ x u) (hy : RelV ρ y v) {b : Bool} (h : leafEq .bool x y = some b)
    (hu : P.underlying t = some .bool) (d : Nat) (w : World) : (Op.equalIn (d + 1) t u v).run P w = .ok b w := by
  cases x <;> cases y <;> simp [leafEq] at h
  subst h
  cases hx; cases hy
  simp [Op.equalIn, run_underlying hu]

theorem leafEq_str {P : Program} {t : TypeId} {x y : V} {u v : Value} (hx : RelV ρ x u) (hy : RelV ρ y v) {b : Bool} (h : leafEq .str x y = some b)
    (hu : P.underlying t = some .string) (d : Nat) (w : World) : (Op.equalIn (d + 1) t u v).run P w = .ok b w := by
  cases x <;> cases y <;> simp [leafEq] at h
  subst h
  cases hx; cases hy
  simp [Op.equalIn, run_underlying hu, beq_toListBytes]

theorem leafEq_float {P : Program} {t : TypeId} {k : FloatKind} {x y : V} {u v : Value} (hx : RelV ρ x u) (hy : RelV ρ y v) {b : Bool} (h : leafEq (.float k) x y = some b)
    (hu : P.underlying t = some (.float k)) (d : Nat) (w : World) : (Op.equalIn (d + 1) t u v).run P w = .ok b w := by
  cases x <;> cases y <;> simp [leafEq] at h
  obtain ⟨h1, h2⟩ := h
  subst h1; subst h2
  cases hx; cases hy
  simp [Op.equalIn, run_underlying hu]

theorem leafEq_cplx {P : Program} {t : TypeId} {k : FloatKind} {x y : V} {u v : Value} (hx : RelV ρ x u) (hy : RelV ρ y v) {b : Bool} (h : leafEq (.cplx k) x y = some b)
    (hu : P.underlying t = some (.complex k)) (d : Nat) (w : World) : (Op.equalIn (d + 1) t u v).run P w = .ok b w := by
  cases x <;> cases y <;> simp [leafEq] at h
  obtain ⟨h1, h2⟩ := h
  subst h1; subst h2
  cases hx; cases hy
  simp [Op.equalIn, run_underlying hu]

theorem partV_run {P : Program} {t : TypeId} {cs : List V} {ys : List Value} (hl : RelL ρ cs ys) {off : Nat} {v : V} (h : partV P t cs off = some v) (w : World) :
    ∃ y, (part t ys.toArray off).run P w = .ok y w ∧ RelV ρ v y := by
  unfold partV at h
  split at h
  · rename_i fs hu
    cases h
    refine ⟨_, part_agg hu rfl ys off w, RelL.agg ⟨by simp [hl.1], fun i v y hv hy => ?_⟩⟩
    rw [List.getElem?_take] at hv hy
    split at hv
    · rename_i hi
      rw [if_pos hi] at hy
      rw [List.getElem?_drop] at hv hy
      exact hl.2 _ v y hv hy
    · cases hv
  · cases h
  · rename_i u h1 h2 hu
    have hlt : off < ys.length := by rw [← hl.1]; exact (List.getElem?_eq_some_iff.1 h).1
    have hy := List.getElem?_eq_getElem hlt
    have hag : aggTy u = false := by
      cases u <;> first | rfl | (exact absurd rfl (h1 _)) | (exact absurd rfl (h2 _ _))
    exact ⟨ys[off], part_leaf hu hag hy w, (hl.2 off v _ h hy).1⟩
  · cases h

theorem fieldsOf_of {P : Program} {t : TypeId} {fs : Array Field} (h : P.underlying t = some (.struct fs)) : P.fieldsOf t = fs := by
  simp [Program.fieldsOf, h]

theorem eqV_run {P : Program} : ∀ (d d' : Nat) {t : TypeId} {x y : V} {u v : Value} {b : Bool}, d ≤ d' → RelV ρ x u → RelV ρ y v → eqV P d t x y = some b → ∀ w, (Op.equalIn d' t u v).run P w = .ok b w
  | 0, _, t, x, y, u, v, b, _, _, _, h, _ => by simp [eqV] at h
  | d + 1, 0, t, x, y, u, v, b, hd, _, _, _, _ => by omega
  | d + 1, d' + 1, t, x, y, u, v, b, hd, hx, hy, h, w => by
    unfold eqV at h
    split at h
    · rename_i fs hu
      split at h
      · rename_i xs ys
        split at h
        · cases h
        · rename_i hst
          obtain ⟨us, rfl, hxs⟩ := agg_inv hx
          obtain ⟨vs, rfl, hys⟩ := agg_inv hy
          have hst' : P.stoodInHeld t = false := by simpa using hst
          rw [run_equalIn_struct w d' t _ _ (by rw [fieldsOf_of hu]; exact hu) hst', fieldsOf_of hu]
          clear hu hst hst' hx hy
          generalize fs.toList = l at h
          induction l generalizing b with
          | nil => simp [eqFs] at h; subst h; simp [Op.eqFields]
          | cons f l ih =>
            simp only [eqFs] at h
            split at h
            · cases h
            · rename_i hname
              simp only [Option.bind_eq_some_iff] at h
              obtain ⟨x1, hx1, y1, hy1, r1, hr1, r2, hr2, h⟩ := h
              cases h
              obtain ⟨u1, hu1, hru⟩ := partV_run hxs hx1 w
              obtain ⟨v1, hv1, hrv⟩ := partV_run hys hy1 w
              have e1 := eqV_run d d' (by omega) hru hrv hr1 w
              have e2 := ih r2 hr2
              simp only [Op.eqFields]
              rw [if_pos hname]
              simp only [Sem.run_bind, hu1, Result.andThen_ok, hv1, e1]
              cases r1
              · simp
              · simpa using e2
      · cases h
    · exact leafEq_int hx hy h (by assumption) d' w
    · exact leafEq_bool hx hy h (by assumption) d' w
    · exact leafEq_str hx hy h (by assumption) d' w
    · exact leafEq_float hx hy h (by assumption) d' w
    · exact leafEq_cplx hx hy h (by assumption) d' w
    · cases h

end ops
end
end Go.L

namespace Go.L
noncomputable section

section ops
variable {R : Type} {E : Env} {o : Oper} {st : St} {K : St → Option R} {r : R} {ρ : Ren} {lo : Nat → Option Nat} {a : Act} {w : World}
  {next : Act → World → Prop} {Q : Exit → Act → World → Prop}

theorem eql_run {P : Program} {t : TypeId} {u v : Value} (h1 : plainV u = true) (hk : ∀ k n, u ≠ .int k n) (hs : ∀ s, u ≠ .string s) (hf : ∀ k n, u ≠ .float k n) (hc : ∀ k x y, u ≠ .complex k x y) {b : Bool} {w : World}
    (h : (Op.equalIn 10000 t u v).run P w = .ok b w) :
    (binOp .eql t u v).run P w = .ok (.bool b) w ∧ (binOp .neq t u v).run P w = .ok (.bool (!b)) w := by
  have e1 : (Op.equal t u v).run P w = .ok b w := h
  constructor
  · cases u <;> first | exact absurd rfl (hk _ _) | exact absurd rfl (hs _) | exact absurd rfl (hf _ _) | exact absurd rfl (hc _ _ _) | (simp [binOp, e1]; done)
  · cases u <;> first | exact absurd rfl (hk _ _) | exact absurd rfl (hs _) | exact absurd rfl (hf _ _) | exact absurd rfl (hc _ _ _) | (simp [binOp, e1]; done)

theorem eqBin_sound {op : BinOp} {t t' : TypeId} {x y : Operand} {u v : Value} (ho : o.op = .binOp op t x y t') (hx : a.eval x = u) (hy : a.eval y = v) {rb : Option Bool}
    (hg : (eqGuard op t x y u v).run E.P w = .ok () w) (heq : ∀ b, rb = some b → (binOp .eql t u v).run E.P w = .ok (.bool b) w ∧ (binOp .neq t u v).run E.P w = .ok (.bool (!b)) w)
    (he : (op = .eql ∧ eqBin false rb (finV E o st K) = some r) ∨ (op = .neq ∧ eqBin true rb (finV E o st K) = some r))
    (hr : RelA E.n ρ lo st a w) (hn : Owes E o st ρ lo w K r next) : o.wp E.P a w next Q := by
  rcases he with ⟨rfl, he⟩ | ⟨rfl, he⟩ <;> simp only [eqBin, Option.bind_eq_some_iff] at he <;> obtain ⟨b, hb, he⟩ := he
  · refine finV_sound he hr hn ?_ (.bool _)
    unfold execOp
    simp only [ho, hx, hy, Sem.run_bind, hg, Result.andThen_ok, (heq b hb).1, Sem.run_pure]
  · refine finV_sound he hr hn ?_ (.bool _)
    unfold execOp
    simp only [ho, hx, hy, Sem.run_bind, hg, Result.andThen_ok, (heq b hb).2, Sem.run_pure]

theorem nilBin_inv {op : BinOp} {rb : Option Bool} {K' : V → Option R} (h : nilBin op rb K' = some r) : (op = .eql ∧ eqBin false rb K' = some r) ∨ (op = .neq ∧ eqBin true rb K' = some r) := by
  cases op <;> simp only [nilBin] at h <;> first | exact .inl ⟨rfl, h⟩ | exact .inr ⟨rfl, h⟩ | cases h

theorem intsEq_run {P : Program} {e : TypeId} {k : IntKind} (hu : P.underlying e = some (.int k)) (h1 : P.cellsOf e = 1) {cs ds : List V} {us vs : List Value} (hc : RelL ρ cs us) (hd : RelL ρ ds vs)
    (d : Nat) (w : World) : ∀ (n s : Nat) {b : Bool}, cs.length = s + n → intsEq (cs.drop s) (ds.drop s) = some b →
    (forIn (List.range' s n) (none, PUnit.unit) (fun i (_ : Option Bool × PUnit) => do
        let x ← part e us.toArray (i * 1)
        let y ← part e vs.toArray (i * 1)
        let q ← Op.equalIn (d + 1) e x y
        if (!q) = true then pure (ForInStep.done (some false, PUnit.unit)) else pure (ForInStep.yield (none, PUnit.unit))) : Sem (Option Bool × PUnit)).run P w =
      .ok ((if b = true then none else some false), PUnit.unit) w
  | 0, s, b, hlen, h => by
    have e0 : cs.drop s = [] := List.drop_eq_nil_of_le (by omega)
    rw [e0] at h
    cases hds : ds.drop s with
    | nil => rw [hds] at h; simp [intsEq] at h; subst h; simp
    | cons z zs => rw [hds] at h; simp [intsEq] at h
  | n + 1, s, b, hlen, h => by
    have hs : s < cs.length := by omega
    rw [List.drop_eq_getElem_cons hs] at h
    cases hds : ds.drop s with
    | nil => rw [hds] at h; cases hcs : cs[s] <;> rw [hcs] at h <;> simp [intsEq] at h
    | cons z zs =>
      have hs2 : s < ds.length := by
        cases Nat.lt_or_ge s ds.length with
        | inl h => exact h
        | inr h => rw [List.drop_eq_nil_of_le h] at hds; cases hds
      have hz : ds[s] = z ∧ ds.drop (s + 1) = zs := by
        rw [List.drop_eq_getElem_cons hs2] at hds
        cases hds; exact ⟨rfl, rfl⟩
      rw [hds] at h
      have hsu : s < us.length := by rw [← hc.1]; exact hs
      have hsv : s < vs.length := by rw [← hd.1]; exact hs2
      have r1 := (hc.2 s _ _ (List.getElem?_eq_getElem hs) (List.getElem?_eq_getElem hsu)).1
      have r2 := (hd.2 s _ _ (List.getElem?_eq_getElem hs2) (List.getElem?_eq_getElem hsv)).1
      rw [hz.1] at r2
      have p1 := part_leaf hu rfl (List.getElem?_eq_getElem hsu) w
      have p2 := part_leaf hu rfl (List.getElem?_eq_getElem hsv) w
      generalize hcv : cs[s] = cv at h r1
      cases cv <;> cases z <;> first | (simp [intsEq] at h; done) | skip
      rename_i k1 a1 k2 b1
      simp only [intsEq] at h
      split at h
      · rename_i hk
        subst hk
        simp only [Option.bind_eq_some_iff, Option.some.injEq] at h
        obtain ⟨y, hy, hb⟩ := h
        generalize us[s] = uu at r1 p1
        generalize vs[s] = vv at r2 p2
        cases r1; cases r2
        rw [← hz.2] at hy
        have ih := intsEq_run hu h1 hc hd d w n (s + 1) (by omega) hy
        rw [List.range'_succ, List.forIn_cons]
        try simp only [Nat.mul_one] at ih ⊢
        simp only [Sem.run_bind, p1, p2, Result.andThen_ok, run_equalIn_int w d e k1 k a1 b1 hu]
        by_cases hab : a1 = b1
        · subst hab
          have hb' : y = b := by rw [← hb]; simp
          subst hb'
          simp
          simpa using ih
        · have hb' : b = false := by rw [← hb]; simp [hab]
          subst hb'
          simp [hab]
      · cases h

end ops
end
end Go.L

