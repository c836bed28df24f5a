/- Tables of callees; and how a law's call ends. -/
import Derived.Test.YtbpibiapjangmaaL31
import Derived.RowKit3
namespace Go.L

def callF (E : Env) (N : Nat) (fn : Func) (vs : List V) (h : H) : Option (V × H) :=
  match Nat.ble vs.length fn.params.size && Nat.ble vs.length E.n with
  | true => evF E N fn vs h
  | false => none

def callP (E : Env) (N : Nat) (fn : Func) (vs : List V) : Option V :=
  match Nat.ble vs.length fn.params.size with
  | true => pureOf E N fn vs
  | false => none

def tcOf : List (Nat × (List V → H → Option (V × H))) → FuncId → List V → H → Option (V × H)
  | [], _, _, _ => none
  | (g, F) :: r, f, vs, h => match Nat.beq g f with
    | true => F vs h
    | false => tcOf r f vs h

def pureTab : List (Nat × (List V → Option V)) → FuncId → Option (List V → Option V)
  | [], _ => none
  | (g, F) :: r, f => match Nat.beq g f with
    | true => some F
    | false => pureTab r f

theorem callF_good {E : Env} {f : FuncId} {fn : Func} (hF : Fine E f fn) (hE : Good E) {N : Nat} {vs : List V} {h h' : H} {v : V} (he : callF E N fn vs h = some (v, h')) :
    Callable E.P f ∧ Triple E.P f vs h v h' := by
  unfold callF at he
  split at he
  · rename_i hc
    simp only [Bool.and_eq_true] at hc
    exact ⟨hF.callable, hF.triple hE (Nat.le_of_ble_eq_true hc.2) (Nat.le_of_ble_eq_true hc.1) he⟩
  · cases he

theorem callP_good {E : Env} {f : FuncId} {fn : Func} (hF : Fine E f fn) (hE : Good E) {N : Nat} {vs : List V} {v : V} (he : callP E N fn vs = some v) :
    Callable E.P f ∧ ∀ h, Triple E.P f vs h v h := by
  unfold callP at he
  split at he
  · rename_i hc
    exact pureOf_good hF hE (Nat.le_of_ble_eq_true hc) he
  · cases he

theorem tcOf_good {P : Program} : ∀ (l : List (Nat × (List V → H → Option (V × H)))), (∀ p ∈ l, ∀ vs h v h', p.2 vs h = some (v, h') → Callable P p.1 ∧ Triple P p.1 vs h v h') →
    ∀ f vs h v h', tcOf l f vs h = some (v, h') → Callable P f ∧ Triple P f vs h v h'
  | [], _, _, _, _, _, _, he => by cases he
  | (g, F) :: r, hl, f, vs, h, v, h', he => by
    simp only [tcOf] at he
    split at he
    · rename_i hb
      have := Nat.eq_of_beq_eq_true hb
      subst this
      exact hl _ (List.mem_cons_self ..) vs h v h' he
    · exact tcOf_good r (fun p hp => hl p (List.mem_cons_of_mem _ hp)) f vs h v h' he

theorem pureTab_good {P : Program} : ∀ (l : List (Nat × (List V → Option V))), (∀ p ∈ l, ∀ vs v, p.2 vs = some v → Callable P p.1 ∧ ∀ h, Triple P p.1 vs h v h) →
    ∀ f F, pureTab l f = some F → ∀ vs v, F vs = some v → Callable P f ∧ ∀ h, Triple P f vs h v h
  | [], _, _, _, he, _, _, _ => by cases he
  | (g, G) :: r, hl, f, F, he, vs, v, hv => by
    simp only [pureTab] at he
    split at he
    · rename_i hb
      have := Nat.eq_of_beq_eq_true hb
      subst this
      cases he
      exact hl _ (List.mem_cons_self ..) vs v hv
    · exact pureTab_good r (fun p hp => hl p (List.mem_cons_of_mem _ hp)) f F he vs v hv

def noTcv : V → List V → H → Option (V × H) := fun _ _ _ => none

theorem good_of {P : Program} {n : Nat} {lc fz : Nat → Bool} {nrm : Nat → Option (List Nat × List Nat)} {lpT : Nat → Option Nat} {lp : List (Nat × (List V → Option V))} {lt : List (Nat × (List V → H → Option (V × H)))}
    (hp : ∀ p ∈ lp, ∀ vs v, p.2 vs = some v → Callable P p.1 ∧ ∀ h, Triple P p.1 vs h v h)
    (ht : ∀ p ∈ lt, ∀ vs h v h', p.2 vs h = some (v, h') → Callable P p.1 ∧ Triple P p.1 vs h v h') :
    Good ⟨P, n, lc, fz, nrm, lpT, pureTab lp, tcOf lt, noTcv⟩ :=
  ⟨tcOf_good lt ht, pureTab_good lp hp, fun _ _ _ _ _ h => by cases h⟩

/-- The end of a law's call: true, and what there was is as it was. -/
theorem law_calls {P : Program} {f : FuncId} {args : List V} {h' : H} (ht : Triple P f args [] (.bool true) h') (w : World) (xs : Array Value) (hsz : xs.size = args.length)
    (hargs : ∀ (i : Nat) (a : V) (x : Value), args[i]? = some a → xs[i]? = some x → RelV (Ren.all w) a x) :
    Calls P f xs w fun e w' => e = .returned (.bool true) ∧ RowKit.Grown w w' ∧ ∀ b, b < w.heap.size → w'.heap[b]? = w.heap[b]? := by
  refine (ht (Ren.all w) w xs (relH_all w) hsz hargs).mono fun e w' he => ?_
  obtain ⟨ρ', x, rfl, hh, hs, hx⟩ := he
  cases hx
  have hold : ∀ b, b < w.heap.size → w'.heap[b]? = w.heap[b]? := fun b hb => step_all hs hh hb
  refine ⟨rfl, ⟨⟨hs.still.os, hs.still.output, fun i hi => ?_⟩, hs.still.frozen, hs.size⟩, hold⟩
  rw [hold i hi]
  cases hb : w.heap[i]? with
  | none => rfl
  | some ob =>
    cases ob with
    | cells c t fr => exact ⟨rfl, rfl, rfl, fun _ _ => rfl⟩
    | map es clock => exact .inr ⟨rfl, rfl⟩
    | _ => rfl

end Go.L
