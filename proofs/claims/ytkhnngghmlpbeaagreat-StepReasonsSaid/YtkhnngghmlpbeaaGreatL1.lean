/- Values, memory and their plain operations: the plain side. No Go text and no walk in it. -/
import GoSem.Dispatch
namespace Go.L

/-- A value. 'ptr', 'sl', 'map' name an object of the heap by its number; 'ver' is which of its lives is meant.
    'rptr', 'rs' hold what is never written any more. -/
inductive V where
  | bool (b : Bool)
  | int (k : IntKind) (n : Int)
  | float (k : FloatKind) (b : Nat)
  | cplx (k : FloatKind) (re im : Nat)
  | str (s : ByteArray)
  | nilp
  | ptr (id ver off : Nat)
  | rptr (cs : List V)
  | nils
  | sl (id ver off len es : Nat) (cap : Option Nat)
  | rs (es : Nat) (xs : List V)
  | nilm
  | map (id : Nat)
  | nilf
  | fn (f : FuncId) (cap : List V)
  | agg (cs : List V)
  | tup (vs : List V)
  deriving Inhabited

inductive O where
  | cells (ver : Nat) (cs : List V)
  | map (es : List (V × V))
  | dead
  | rsv
  deriving Inhabited

abbrev H := List O

/-- What a slot holds: a value, a pointer that is known not to be nil, a place in a variable of the call's own, or nothing that is known. -/
inductive S where
  | v (x : V)
  | p (x : V)
  | lp (t off : Nat)
  | bad
  | un

structure St where
  s : List (Nat × S)
  l : List (Nat × List V)
  h : H

noncomputable def lk (s : List (Nat × S)) (i : Nat) : S :=
  List.rec (motive := fun _ => S) .bad (fun p _ ih => Bool.rec ih p.2 (Nat.beq p.1 i)) s

theorem lk_nil (i : Nat) : lk [] i = .bad := rfl
theorem lk_step (j : Nat) (x : S) (r : List (Nat × S)) (i : Nat) : lk ((j, x) :: r) i = match Nat.beq j i with | true => x | false => lk r i := by
  cases h : Nat.beq j i <;> simp [lk, h]

def lkl : List (Nat × List V) → Nat → Option (List V)
  | [], _ => none
  | (j, x) :: r, i => match Nat.beq j i with | true => some x | false => lkl r i

def V.cells : V → List V
  | .agg cs => cs
  | v => [v]

def splice (cs : List V) (off : Nat) (xs : List V) : List V :=
  match xs with
  | [x] => cs.set off x
  | xs => cs.take off ++ (xs ++ cs.drop (off + xs.length))

/-- One cell behind a pointer. -/
def rd (h : H) (p : V) (i : Nat) : Option V :=
  match p with
  | .ptr id ver off => match h[id]? with
    | some (.cells v cs) => if v = ver then cs[off + i]? else none
    | _ => none
  | .rptr cs => cs[i]?
  | _ => none

/-- Cells behind a pointer. -/
def rdN (h : H) (p : V) (n : Nat) : Option (List V) :=
  match p with
  | .ptr id ver off => match h[id]? with
    | some (.cells v cs) => if v = ver then (if off + n ≤ cs.length then some ((cs.drop off).take n) else none) else none
    | _ => none
  | .rptr cs => if n ≤ cs.length then some (cs.take n) else none
  | _ => none

/-- A write behind a pointer. -/
def wr (h : H) (p : V) (xs : List V) : Option H :=
  match p with
  | .ptr id ver off => match h[id]? with
    | some (.cells v cs) => if v = ver then (if off + xs.length ≤ cs.length then some (h.set id (.cells v (splice cs off xs))) else none) else none
    | _ => none
  | _ => none

def padd (p : V) (d : Nat) : V :=
  match p with
  | .ptr id ver off => .ptr id ver (off + d)
  | .rptr cs => .rptr (cs.drop d)
  | x => x

def nck (p : V) : Option Unit :=
  match p with
  | .ptr .. | .rptr _ => some ()
  | _ => none

def isNil (p : V) : Option Bool :=
  match p with
  | .nilp => some true
  | .ptr .. | .rptr _ => some false
  | _ => none

def isNilS (p : V) : Option Bool :=
  match p with
  | .nils => some true
  | .sl .. | .rs _ (_ :: _) => some false
  | _ => none

def isNilM (p : V) : Option Bool :=
  match p with
  | .nilm => some true
  | .map _ => some false
  | _ => none

def isNilF (p : V) : Option Bool :=
  match p with
  | .nilf => some true
  | .fn .. => some false
  | _ => none

/-- The place of an element of a slice. -/
def sidx (s : V) (i : Int) (es : Nat) : Option V :=
  match s with
  | .sl id ver off len es' _ => if es' = es then (if 0 ≤ i then (if i < len then some (.ptr id ver (off + i.toNat * es)) else none) else none) else none
  | .rs es' xs => if es' = es then (if 0 ≤ i then (xs[i.toNat]?).map (fun v => .rptr v.cells) else none) else none
  | _ => none

/-- The place of an element of an array at a place. -/
def aidx (p : V) (i : Int) (n es : Nat) : Option V :=
  if 0 ≤ i then (if i < n then (if es ≠ 0 then some (padd p (i.toNat * es)) else none) else none) else none

def slen (s : V) : Option Int :=
  match s with
  | .nils => some 0
  | .sl _ _ _ len _ _ => some len
  | .rs _ xs => some xs.length
  | _ => none

/-- A slice's length, as a number of its own. -/
def scap (s : V) : Nat :=
  match s with
  | .sl _ _ _ len _ (some c) => max len c
  | .sl _ _ _ len _ none => len
  | .rs _ xs => xs.length
  | _ => 0

def snlen (s : V) : Nat :=
  match s with
  | .sl _ _ _ len _ _ => len
  | .rs _ xs => xs.length
  | _ => 0

/-- s[lo:hi], the bounds as numbers. -/
def scut (s : V) (lo hi : Nat) : V :=
  match s with
  | .sl id ver off _ es cap => .sl id ver (off + lo * es) (hi - lo) es (cap.map (· - lo))
  | .rs es xs => .rs es ((xs.drop lo).take (hi - lo))
  | x => x

def scut3 (s : V) (lo hi mx : Nat) : V :=
  match s with
  | .sl id ver off _ es _ => .sl id ver (off + lo * es) (hi - lo) es (some (mx - lo))
  | .rs es xs => .rs es ((xs.drop lo).take (hi - lo))
  | x => x

def isSl (s : V) : Bool :=
  match s with
  | .nils | .sl .. | .rs .. => true
  | _ => false

/-- Of a slice whose elements have so many cells. -/
def esIs (s : V) (es : Nat) : Bool :=
  match s with
  | .sl _ _ _ _ es' _ => es' == es
  | .rs es' _ => es' == es
  | .nils => true
  | _ => false

/-- s[lo:hi] of a slice, hi not beyond what is known to be there. -/
def ssl (es : Nat) (s : V) (lo hi : Int) : Option V :=
  if esIs s es = true then (if 0 ≤ lo then (if lo ≤ hi then (if hi ≤ scap s then some (scut s lo.toNat hi.toNat) else none) else none) else none) else none

def ssl3 (es : Nat) (s : V) (lo hi mx : Int) : Option V :=
  if esIs s es = true then (if 0 ≤ lo then (if lo ≤ hi then (if hi ≤ mx then (if mx ≤ scap s then some (scut3 s lo.toNat hi.toNat mx.toNat) else none) else none) else none) else none) else none

/-- The flat cells of a slice. -/
def scells (h : H) (s : V) (es : Nat) : Option (List V) :=
  match s with
  | .nils => some []
  | .sl id ver off len es' _ => if es' = es then rdN h (.ptr id ver off) (len * es) else none
  | .rs es' xs => if es' = es then some (xs.flatMap V.cells) else none
  | _ => none

def mostCells : Nat := 2 ^ 32

/-- append: 'new' are the flat cells that come behind, k elements of es cells. -/
def happ (h : H) (s : V) (es k : Nat) (new : List V) : Option (V × H) :=
  if k = 0 then (if isSl s then some (s, h) else none)
  else if new.length = k * es then
    match s with
    | .nils => if k * es ≤ mostCells then some (.sl h.length 0 0 k es none, h ++ [.cells 0 new]) else none
    | .sl id ver off len es' cap =>
      if es' = es then
        match h[id]? with
        | some (.cells v cs) =>
          if v = ver then
            if off + len * es ≤ cs.length then
              if (len + k) * es ≤ mostCells then
                match cap with
                | none => some (.sl id (ver + 1) 0 (len + k) es none, h.set id (.cells (ver + 1) ((cs.drop off).take (len * es) ++ new)))
                | some c =>
                  if len + k ≤ c then
                    if off + (len + k) * es ≤ cs.length then some (.sl id ver off (len + k) es cap, h.set id (.cells v (splice cs (off + len * es) new))) else none
                  else some (.sl h.length 0 0 (len + k) es none, h ++ [.cells 0 ((cs.drop off).take (len * es) ++ new)])
              else none
            else none
          else none
        | _ => none
      else none
    | _ => none
  else none

/-- New memory in a place that was kept for it: d from the heap's end. -/
def hfill (h : H) (d : Nat) (cs : List V) : Option H :=
  match h[h.length - d]? with
  | some .rsv => some (h.set (h.length - d) (.cells 1 cs))
  | _ => none

/-- What is in a slice is written no more: it becomes a value. -/
def chunks (es : Nat) : Nat → List V → List V
  | 0, _ => []
  | n + 1, cs => (if es = 1 then (cs.headD default) else .agg (cs.take es)) :: chunks es n (cs.drop es)

mutual
def V.ground : V → Bool
  | .ptr .. | .sl .. | .map _ => false
  | .rptr cs | .rs _ cs | .fn _ cs | .agg cs | .tup cs => V.grounds cs
  | _ => true
def V.grounds : List V → Bool
  | [] => true
  | v :: r => v.ground && V.grounds r
end

def hfreeze (h : H) (s : V) (es : Nat) : Option (V × H) :=
  match s with
  | .nils => some (.rs es [], h)
  | .rs es' xs => if es' = es then some (.rs es xs, h) else none
  | .sl id ver off len es' _ =>
    if es' = es then
      match h[id]? with
      | some (.cells v cs) => if v = ver then (if off + len * es ≤ cs.length then some (.rs es (chunks es len (cs.drop off)), h.set id .dead) else none) else none
      | _ => none
    else none
  | _ => none

/- Typed reads of one value. -/
def asInt (k : IntKind) (o : Option V) : Option Int :=
  match o with
  | some (.int k' n) => if k' = k then some n else none
  | _ => none
def asBool (o : Option V) : Option Bool :=
  match o with
  | some (.bool b) => some b
  | _ => none
def asStr (o : Option V) : Option ByteArray :=
  match o with
  | some (.str s) => some s
  | _ => none
def asFloat (k : FloatKind) (o : Option V) : Option Nat :=
  match o with
  | some (.float k' b) => if k' = k then some b else none
  | _ => none
def asCplx (k : FloatKind) (o : Option V) : Option (Nat × Nat) :=
  match o with
  | some (.cplx k' a b) => if k' = k then some (a, b) else none
  | _ => none
def asAgg (n : Nat) (o : Option V) : Option (List V) :=
  match o with
  | some (.agg cs) => if cs.length = n then some cs else none
  | _ => none
def tupAt (v : V) (i : Nat) : Option V :=
  match v with
  | .tup vs => vs[i]?
  | _ => none
def aggAt (o : Option V) (i : Nat) : Option V :=
  match o with
  | some (.agg vs) => vs[i]?
  | _ => none

/- Equality of plain values, part by part. -/
mutual
def V.beq : V → V → Bool
  | .bool a, .bool b => a == b
  | .int k a, .int k' b => decide (k = k') && a == b
  | .float k a, .float k' b => decide (k = k') && a == b
  | .cplx k a c, .cplx k' b d => decide (k = k') && a == b && c == d
  | .str a, .str b => a.toList == b.toList
  | .nilp, .nilp => true
  | .ptr a b c, .ptr d e f => a == d && b == e && c == f
  | .rptr a, .rptr b => V.beqs a b
  | .nils, .nils => true
  | .sl a b c d e f, .sl a' b' c' d' e' f' => a == a' && b == b' && c == c' && d == d' && e == e' && f == f'
  | .rs a b, .rs a' b' => a == a' && V.beqs b b'
  | .nilm, .nilm => true
  | .map a, .map b => a == b
  | .nilf, .nilf => true
  | .fn a b, .fn a' b' => a == a' && V.beqs b b'
  | .agg a, .agg b => V.beqs a b
  | .tup a, .tup b => V.beqs a b
  | _, _ => false
def V.beqs : List V → List V → Bool
  | [], [] => true
  | a :: r, b :: s => V.beq a b && V.beqs r s
  | _, _ => false
end

def obeq (a b : Option V) : Bool :=
  match a, b with
  | some x, some y => x.beq y
  | none, none => true
  | _, _ => false

/- Maps: entries in the order in which they came. -/
def keq (a b : V) : Option Bool :=
  match a, b with
  | .int k a, .int k' b => if k = k' then some (a == b) else none
  | .str a, .str b => some (a == b)
  | .bool a, .bool b => some (a == b)
  | _, _ => none
def mlook (k : V) : List (V × V) → Option (Option V)
  | [] => some none
  | e :: r => (keq k e.1).bind fun b => if b = true then some (some e.2) else mlook k r
def mput (k v : V) : List (V × V) → Option (List (V × V))
  | [] => some [(k, v)]
  | e :: r => (keq k e.1).bind fun b => if b = true then some ((k, v) :: r) else (mput k v r).map (e :: ·)
def mrem (k : V) : List (V × V) → Option (List (V × V))
  | [] => some []
  | e :: r => (keq k e.1).bind fun b => if b = true then some r else (mrem k r).map (e :: ·)
def hmap (h : H) (m : V) : Option (List (V × V)) :=
  match m with
  | .nilm => some []
  | .map id => match h[id]? with
    | some (.map es) => some es
    | _ => none
  | _ => none
def hmapset (h : H) (m k v : V) : Option H :=
  match m with
  | .map id => match h[id]? with
    | some (.map es) => (mput k v es).map fun es => h.set id (.map es)
    | _ => none
  | _ => none
def hmapdel (h : H) (m k : V) : Option H :=
  match m with
  | .nilm => some h
  | .map id => match h[id]? with
    | some (.map es) => (mrem k es).map fun es => h.set id (.map es)
    | _ => none
  | _ => none

end Go.L
