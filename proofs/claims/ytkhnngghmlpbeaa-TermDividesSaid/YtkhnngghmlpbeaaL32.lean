/- Tables of callees; and how a law's call ends. -/
import Derived.Test.YtkhnngghmlpbeaaL31
import Derived.RowKit3
namespace Go.L
noncomputable section

def calTab : List (Nat × Cal) → FuncId → Option Cal
  | [], _ => none
  | (g, F) :: r, f => match Nat.beq g f with
    | true => some F
    | false => calTab r f

def altTab : List (Nat × List Alt) → Nat → Option (List Alt)
  | [], _ => none
  | (g, F) :: r, f => match Nat.beq g f with
    | true => some F
    | false => altTab r f

def loopTab : List (Nat × LoopA) → Nat → Option LoopA
  | [], _ => none
  | (g, F) :: r, f => match Nat.beq g f with
    | true => some F
    | false => loopTab r f

def natTab : List (Nat × Nat) → Nat → Option Nat
  | [], _ => none
  | (g, F) :: r, f => match Nat.beq g f with
    | true => some F
    | false => natTab r f

def inTab : List Nat → Nat → Bool
  | [], _ => false
  | g :: r, f => match Nat.beq g f with
    | true => true
    | false => inTab r f

def AllC (P : Program) : List (Nat × Cal) → Prop
  | [] => True
  | p :: r => CalOk P p.1 p.2 ∧ AllC P r

theorem calTab_good {P : Program} : ∀ (l : List (Nat × Cal)), AllC P l → ∀ f F, calTab l f = some F → CalOk P f F
  | [], _, _, _, he => by cases he
  | (g, G) :: r, hl, f, F, he => by
    simp only [calTab] at he
    split at he
    · rename_i hb
      have := Nat.eq_of_beq_eq_true hb
      subst this
      cases he
      exact hl.1
    · exact calTab_good r hl.2 f F he

theorem good_of {P : Program} {n : Nat} {lc fz rl : Nat → Bool} {lpT : Nat → Option Nat} {jn : Nat → Option (List Alt)} {lp : Nat → Option LoopA} {rs : Nat → Option Nat} {tab : List (Nat × Cal)}
    (ht : AllC P tab) : Good ⟨P, n, lc, fz, lpT, rl, calTab tab, jn, lp, rs⟩ := ⟨fun f c h => calTab_good tab ht f c h⟩

/-- A loop's code, by its place. -/
def loopsOf : Code → List Code
  | .seq a b => loopsOf a ++ loopsOf b
  | .cond _ a b => loopsOf a ++ loopsOf b
  | .block _ c => loopsOf c
  | .loop c => c :: loopsOf c
  | _ => []

def LAll (E : Env) (N : Nat) : List Code → Prop
  | [] => True
  | c :: r => (∀ A, E.lp (lid c) = some A → LoopOk E N c A) ∧ LAll E N r

theorem lAll_append {E : Env} {N : Nat} : ∀ {a b : List Code}, LAll E N (a ++ b) → LAll E N a ∧ LAll E N b
  | [], _, h => ⟨trivial, h⟩
  | _ :: _, _, h => ⟨⟨h.1, (lAll_append h.2).1⟩, (lAll_append h.2).2⟩

theorem lgood_of {E : Env} {N : Nat} : ∀ (c : Code), LAll E N (loopsOf c) → LGood E N c
  | .seq a b, h => ⟨lgood_of a (lAll_append h).1, lgood_of b (lAll_append h).2⟩
  | .cond _ a b, h => ⟨lgood_of a (lAll_append h).1, lgood_of b (lAll_append h).2⟩
  | .block _ c, h => lgood_of c h
  | .loop c, h => ⟨lgood_of c h.2, h.1⟩
  | .skip, _ | .region .., _ | .exit _, _ | .ret, _ | .goto _, _ | .label _, _ | .scope .., _ | .rangeFunc .., _ | .refuse _, _ => trivial

theorem loopOk_of {E : Env} {N : Nat} {c : Code} {A : LoopA} (hA : E.lp (lid c) = some A) (h0 : ∀ s, A.L 0 s = none) (h1 : ∀ n s, A.L (n + 1) s = ev E N c (A.head.dec s) (A.next n)) :
    ∀ A, E.lp (lid c) = some A → LoopOk E N c A := fun B hB => by
  rw [hA] at hB
  cases hB
  exact ⟨h0, h1⟩

def loopAt (fn : Func) (j : Nat) : Code := ((fn.body.map loopsOf).getD []).getD j .skip

theorem loops_of {E : Env} {N : Nat} {fn : Func} (h : LAll E N ((fn.body.map loopsOf).getD [])) : ∀ c, fn.body = some c → LGood E N c := fun c hc => by
  rw [hc] at h
  exact lgood_of c h

/-- The end of a law's call: true, and what there was is as it was. -/
theorem law_calls {P : Program} {f : FuncId} {args : List V} {h' : H} (ht : Triple P f args [] (.bool true) h') (w : World) (xs : Array Value) (hsz : xs.size = args.length)
    (hargs : ∀ (i : Nat) (a : V) (x : Value), args[i]? = some a → xs[i]? = some x → RelV (Ren.all w) a x) :
    Calls P f xs w fun e w' => e = .returned (.bool true) ∧ RowKit.Grown w w' ∧ ∀ b, b < w.heap.size → w'.heap[b]? = w.heap[b]? := by
  refine (ht (Ren.all w) w xs (relH_all w) hsz hargs).mono fun e w' he => ?_
  obtain ⟨ρ', x, rfl, hh, hs, hx⟩ := he
  cases hx
  have hold : ∀ b, b < w.heap.size → w'.heap[b]? = w.heap[b]? := fun b hb => step_all hs hh hb
  refine ⟨rfl, ⟨⟨hs.still.os, hs.still.output, fun i hi => ?_⟩, hs.still.frozen, hs.size⟩, hold⟩
  rw [hold i hi]
  cases hb : w.heap[i]? with
  | none => rfl
  | some ob =>
    cases ob with
    | cells c t fr => exact ⟨rfl, rfl, rfl, fun _ _ => rfl⟩
    | map es clock => exact .inr ⟨rfl, rfl⟩
    | _ => rfl

end
end Go.L
