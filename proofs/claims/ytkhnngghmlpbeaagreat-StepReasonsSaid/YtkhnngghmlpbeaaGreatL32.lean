/- Tables of callees; and how a law's call ends. -/
import Derived.Test.YtkhnngghmlpbeaaGreatL31
import Derived.RowKit3
namespace Go.L
noncomputable section

def calTab : List (Nat × Cal) → FuncId → Option Cal
  | [], _ => none
  | (g, F) :: r, f => match Nat.beq g f with
    | true => some F
    | false => calTab r f

def altTab : List (Nat × List Alt) → Nat → Option (List Alt)
  | [], _ => none
  | (g, F) :: r, f => match Nat.beq g f with
    | true => some F
    | false => altTab r f

def loopTab : List (Nat × LoopA) → Nat → Option LoopA
  | [], _ => none
  | (g, F) :: r, f => match Nat.beq g f with
    | true => some F
    | false => loopTab r f

def natTab : List (Nat × Nat) → Nat → Option Nat
  | [], _ => none
  | (g, F) :: r, f => match Nat.beq g f with
    | true => some F
    | false => natTab r f

def inTab : List Nat → Nat → Bool
  | [], _ => false
  | g :: r, f => match Nat.beq g f with
    | true => true
    | false => inTab r f

def AllC (P : Program) : List (Nat × Cal) → Prop
  | [] => True
  | p :: r => CalOk P p.1 p.2 ∧ AllC P r

theorem calTab_good {P : Program} : ∀ (l : List (Nat × Cal)), AllC P l → ∀ f F, calTab l f = some F → CalOk P f F
  | [], _, _, _, he => by cases he
  | (g, G) :: r, hl, f, F, he => by
    simp only [calTab] at he
    split at he
    · rename_i hb
      have := Nat.eq_of_beq_eq_true hb
      subst this
      cases he
      exact hl.1
    · exact calTab_good r hl.2 f F he

theorem good_of {P : Program} {n : Nat} {lc fz rl : Nat → Bool} {lpT : Nat → Option Nat} {jn : Nat → Option (List Alt)} {lp : Nat → Option LoopA} {rs : Nat → Option Nat} {tab : List (Nat × Cal)}
    (ht : AllC P tab) : Good ⟨P, n, lc, fz, lpT, rl, calTab tab, jn, lp, rs⟩ := ⟨fun f c h => calTab_good tab ht f c h⟩

/-! A call of what is not known ahead: one of some functions. -/
def asFn : V → Option (Nat × List V)
  | .fn f cs => some (f, cs)
  | _ => none

def dynD (rs : List SK) : List (Nat × (List V → H → Option (Tup rs H))) → Nat → List V → H → Option (Tup rs H)
  | [], _, _, _ => none
  | p :: r, f, vs, h => match Nat.beq f p.1 with
    | true => p.2 vs h
    | false => dynD rs r f vs h

def dynC (rs : List SK) (l : List (Nat × (List V → H → Option (Tup rs H)))) (x : V) (vs : List V) (h : H) : Option (Tup rs H) :=
  (asFn x).bind fun p => dynD rs l p.1 (vs ++ p.2) h

def dynF (rs : List SK) (l : List (Nat × (List V → H → Option (Tup rs H)))) : Fun :=
  ⟨Tup rs H, fun vs h => match vs with
    | x :: vs => dynC rs l x vs h
    | [] => none, outR rs⟩

def AllD (P : Program) (rs : List SK) : List (Nat × (List V → H → Option (Tup rs H))) → Prop
  | [] => True
  | p :: r => (∀ vs h s, p.2 vs h = some s → Callable P p.1 ∧ Triple P p.1 vs h (outR rs s).1 (outR rs s).2) ∧ AllD P rs r

theorem dynD_good {P : Program} {rs : List SK} {f : Nat} {vs : List V} {h : H} {s : Tup rs H} : ∀ {l : List (Nat × (List V → H → Option (Tup rs H)))}, AllD P rs l → dynD rs l f vs h = some s → Callable P f ∧ Triple P f vs h (outR rs s).1 (outR rs s).2
  | [], _, he => by cases he
  | p :: r, hl, he => by
    simp only [dynD] at he
    split at he
    · rename_i hb
      have := Nat.eq_of_beq_eq_true hb
      subst this
      exact hl.1 vs h s he
    · exact dynD_good hl.2 he

theorem dyn_good {P : Program} {k : Nat} {rs : List SK} {l : List (Nat × (List V → H → Option (Tup rs H)))} (hl : AllD P rs l) : CalOk P k (.dyn (dynF rs l)) := fun x vs h s he => by
  obtain ⟨p, hp, he⟩ := Option.bind_eq_some_iff.1 he
  have hx : x = .fn p.1 p.2 := by
    cases x <;> simp only [asFn] at hp <;> cases hp
    rfl
  exact ⟨p.1, p.2, hx, dynD_good hl he⟩

/-- The labels of a scope, each with what comes behind it. -/
def labs : Code → List (Nat × Code)
  | .seq a b => (labs a).map (fun p => (p.1, .seq p.2 b)) ++ labs b
  | .label l => [(l, .skip)]
  | _ => []

theorem labs_mem {l : Nat} : ∀ {c rest : Code}, findLabel c l = some rest → (l, rest) ∈ labs c
  | .seq a b, rest, hf => by
    simp only [findLabel] at hf
    split at hf
    · rename_i r hr
      cases hf
      exact List.mem_append_left _ (List.mem_map.2 ⟨_, labs_mem hr, rfl⟩)
    · exact List.mem_append_right _ (labs_mem hf)
  | .label l', rest, hf => by
    simp only [findLabel] at hf
    split at hf
    · rename_i h
      cases hf
      have : l' = l := by simpa using h
      subst this
      simp [labs]
    · cases hf
  | .skip, rest, hf => by cases hf
  | .region .., rest, hf => by cases hf
  | .cond .., rest, hf => by cases hf
  | .block .., rest, hf => by cases hf
  | .loop .., rest, hf => by cases hf
  | .rangeFunc .., rest, hf => by cases hf
  | .exit .., rest, hf => by cases hf
  | .scope .., rest, hf => by cases hf
  | .goto .., rest, hf => by cases hf
  | .ret, rest, hf => by cases hf
  | .refuse .., rest, hf => by cases hf

/-- A loop, or what comes behind a label. -/
inductive LIt where
  | loop (c : Code)
  | lab (l : Nat) (c : Code)

/-- The loops and labels of a piece of code, by their places. -/
def itsOf : Code → List LIt
  | .seq a b => itsOf a ++ itsOf b
  | .cond _ a b => itsOf a ++ itsOf b
  | .block _ c => itsOf c
  | .loop c => .loop c :: itsOf c
  | .scope c => (labs c).map (fun p => .lab p.1 p.2) ++ itsOf c
  | _ => []

def LAll (E : Env) (N : Nat) : List LIt → Prop
  | [] => True
  | .loop c :: r => (∀ A, E.lp (lid c) = some A → LoopOk E N c A) ∧ LAll E N r
  | .lab l c :: r => (∀ A, E.lp (lbKey l) = some A → LabelOk E N l c A) ∧ LAll E N r

theorem lAll_append {E : Env} {N : Nat} : ∀ {a b : List LIt}, LAll E N (a ++ b) → LAll E N a ∧ LAll E N b
  | [], _, h => ⟨trivial, h⟩
  | .loop _ :: _, _, h => ⟨⟨h.1, (lAll_append h.2).1⟩, (lAll_append h.2).2⟩
  | .lab _ _ :: _, _, h => ⟨⟨h.1, (lAll_append h.2).1⟩, (lAll_append h.2).2⟩

theorem lAll_lab {E : Env} {N : Nat} {l : Nat} {c : Code} : ∀ {ps : List (Nat × Code)}, LAll E N (ps.map fun p => .lab p.1 p.2) → (l, c) ∈ ps → ∀ A, E.lp (lbKey l) = some A → LabelOk E N l c A
  | p :: ps, h, hm => by
    rcases List.mem_cons.1 hm with e | hm
    · subst e; exact h.1
    · exact lAll_lab h.2 hm

theorem lgood_of {E : Env} {N : Nat} : ∀ (c : Code), LAll E N (itsOf c) → LGood E N c
  | .seq a b, h => ⟨lgood_of a (lAll_append h).1, lgood_of b (lAll_append h).2⟩
  | .cond _ a b, h => ⟨lgood_of a (lAll_append h).1, lgood_of b (lAll_append h).2⟩
  | .block _ c, h => lgood_of c h
  | .loop c, h => ⟨lgood_of c h.2, h.1⟩
  | .scope c, h => ⟨lgood_of c (lAll_append h).2, fun _ _ A hf hA => lAll_lab (lAll_append h).1 (labs_mem hf) A hA⟩
  | .skip, _ | .region .., _ | .exit _, _ | .ret, _ | .goto _, _ | .label _, _ | .rangeFunc .., _ | .refuse _, _ => trivial

theorem loopOk_of {E : Env} {N : Nat} {c : Code} {A : LoopA} (hA : E.lp (lid c) = some A) (h0 : ∀ s, A.L 0 s = none) (h1 : ∀ n s, A.L (n + 1) s = ev E N c (A.head.dec s) (A.next n)) :
    ∀ A, E.lp (lid c) = some A → LoopOk E N c A := fun B hB => by
  rw [hA] at hB
  cases hB
  exact ⟨h0, h1⟩

theorem labelOk_of {E : Env} {N : Nat} {l : Nat} {c : Code} {A : LoopA} (hA : E.lp (lbKey l) = some A) (h0 : ∀ s, A.L 0 s = none) (h1 : ∀ n s, A.L (n + 1) s = ev E N c (A.head.dec s) (A.back l n)) :
    ∀ A, E.lp (lbKey l) = some A → LabelOk E N l c A := fun B hB => by
  rw [hA] at hB
  cases hB
  exact ⟨h0, h1⟩

def LIt.code : LIt → Code
  | .loop c => c
  | .lab _ c => c

def loopAt (fn : Func) (j : Nat) : Code := (((fn.body.map itsOf).getD []).getD j (.loop .skip)).code

theorem loops_of {E : Env} {N : Nat} {fn : Func} (h : LAll E N ((fn.body.map itsOf).getD [])) : ∀ c, fn.body = some c → LGood E N c := fun c hc => by
  rw [hc] at h
  exact lgood_of c h

/-- The end of a law's call: true, and what there was is as it was. -/
theorem law_calls {P : Program} {f : FuncId} {args : List V} {h' : H} (ht : Triple P f args [] (.bool true) h') (w : World) (xs : Array Value) (hsz : xs.size = args.length)
    (hargs : ∀ (i : Nat) (a : V) (x : Value), args[i]? = some a → xs[i]? = some x → RelV (Ren.all w) a x) :
    Calls P f xs w fun e w' => e = .returned (.bool true) ∧ RowKit.Grown w w' ∧ ∀ b, b < w.heap.size → w'.heap[b]? = w.heap[b]? := by
  refine (ht (Ren.all w) w xs (relH_all w) hsz hargs).mono fun e w' he => ?_
  obtain ⟨ρ', x, rfl, hh, hs, hx⟩ := he
  cases hx
  have hold : ∀ b, b < w.heap.size → w'.heap[b]? = w.heap[b]? := fun b hb => step_all hs hh hb
  refine ⟨rfl, ⟨⟨hs.still.os, hs.still.output, fun i hi => ?_⟩, hs.still.frozen, hs.size⟩, hold⟩
  rw [hold i hi]
  cases hb : w.heap[i]? with
  | none => rfl
  | some ob =>
    cases ob with
    | cells c t fr => exact ⟨rfl, rfl, rfl, fun _ _ => rfl⟩
    | map es clock => exact .inr ⟨rfl, rfl⟩
    | _ => rfl

end
end Go.L
