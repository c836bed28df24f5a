/- A run that starts from no memory of its own is good in any memory. -/
import Derived.Test.YtbpibiapjangmaaL30
namespace Go.L

mutual
/-- A value that names no memory. -/
def V.scal : V → Bool
  | .ptr .. | .sl .. | .map _ | .rptr _ | .rs _ _ => false
  | .fn _ cs | .agg cs | .tup cs => V.scals cs
  | _ => true
def V.scals : List V → Bool
  | [] => true
  | v :: r => v.scal && V.scals r
end

theorem scals_get : ∀ {cs : List V} {i : Nat} {v : V}, V.scals cs = true → cs[i]? = some v → v.scal = true
  | [], i, v, _, h => by simp at h
  | c :: cs, i, v, hs, h => by
    simp only [V.scals, Bool.and_eq_true] at hs
    cases i with
    | zero => simp at h; subst h; exact hs.1
    | succ i => simp at h; exact scals_get hs.2 h

theorem RelV.scal {ρ ρ' : Ren} {v : V} {x : Value} (h : RelV ρ v x) (hs : v.scal = true) : RelV ρ' v x := by
  induction h with
  | bool b => exact .bool b
  | int k n => exact .int k n
  | float k b => exact .float k b
  | cplx k a b => exact .cplx k a b
  | str s => exact .str s
  | nilp => exact .nilp
  | ptr => simp [V.scal] at hs
  | rptr => simp [V.scal] at hs
  | nils => exact .nils
  | sl => simp [V.scal] at hs
  | rs0 => simp [V.scal] at hs
  | rs => simp [V.scal] at hs
  | nilm => exact .nilm
  | map => simp [V.scal] at hs
  | nilf => exact .nilf
  | fn f cs xs h1 h2 ih => exact .fn f cs xs h1 fun i v x hv hx => ih i v x hv hx (scals_get (by simpa [V.scal] using hs) hv)
  | agg cs xs h1 h2 h3 ih => exact .agg cs xs h1 (fun i v x hv hx => ih i v x hv hx (scals_get (by simpa [V.scal] using hs) hv)) h3
  | tup cs xs h1 h2 ih => exact .tup cs xs h1 fun i v x hv hx => ih i v x hv hx (scals_get (by simpa [V.scal] using hs) hv)

/-- All there is, to be read alone. -/
def Ren.all (w : World) : Ren := ⟨0, fun _ => 0, fun _ => none, fun b => w.heap[b]?⟩

theorem relH_all (w : World) : RelH (Ren.all w) [] w :=
  ⟨rfl, (fun id o h => by simp at h), (fun id g h => by cases h), (fun i j g g' h => by cases h), (fun b ob h => h), (fun i g h => by cases h)⟩

/-- What was there is there. -/
theorem step_all {ρ' : Ren} {w w' : World} {h' : H} (hs : Step (Ren.all w) nol w ρ' nol w') (hh : RelH ρ' h' w') {b : Nat} (hb : b < w.heap.size) : w'.heap[b]? = w.heap[b]? := by
  have h1 : (Ren.all w).ro b = some w.heap[b] := Array.getElem?_eq_getElem hb
  rw [hh.ro b _ (hs.le.ro b _ h1), Array.getElem?_eq_getElem hb]

theorem Triple.closed {P : Program} {f : FuncId} {args : List V} {v : V} {h' : H} (ht : Triple P f args [] v h') (hg : V.scals args = true) (hv : v.scal = true) (h : H) : Triple P f args h v h := by
  intro ρ w xs hrel hsz hargs
  refine (ht (Ren.all w) w xs (relH_all w) hsz fun i a x ha hx => (hargs i a x ha hx).scal (scals_get hg ha)).mono fun e w' he => ?_
  obtain ⟨ρ', x, rfl, hh, hs, hx⟩ := he
  have hold : ∀ b, b < w.heap.size → w'.heap[b]? = w.heap[b]? := fun b hb => step_all hs hh hb
  refine ⟨ρ, x, rfl, ⟨hrel.n, hrel.live, fun id g hg => ?_, hrel.inj, fun b ob hb => ?_, hrel.sep⟩, ⟨.refl ρ, hs.still, hs.size, fun b hb h1 h2 => ⟨hold b hb, h1, h2, rfl⟩⟩, hx.scal hv⟩
  · obtain ⟨o, ob, h1, h2, h3⟩ := hrel.obj id g hg
    exact ⟨o, ob, h1, by rw [hold _ (hrel.blk_lt hg)]; exact h2, h3⟩
  · rw [hold _ (hrel.ro_lt hb)]; exact hrel.ro b ob hb

/-- A function that is a plain one of what it gets. -/
def pureOf (E : Env) (N : Nat) (fn : Func) (vs : List V) : Option V :=
  match evF E N fn vs [] with
  | some (v, _) => if V.scals vs && v.scal && Nat.ble vs.length E.n then some v else none
  | none => none

structure Fine (E : Env) (f : FuncId) (fn : Func) : Prop where
  func : E.P.funcs[f]? = some fn
  name : (fn.name == "runtime.NumGoroutine") = false
  body : fn.body.isNone = false
  ntmps : fn.ntmps = E.n
  calm : (fn.body.map (calm E)).getD false = true
  lp : (List.range fn.params.size).all (fun i => (E.lpT i).isNone) = true

theorem Fine.callable {E : Env} {f : FuncId} {fn : Func} (h : Fine E f fn) : Callable E.P f := ⟨fn, h.func, h.name, h.body⟩

theorem Fine.triple {E : Env} {f : FuncId} {fn : Func} (hF : Fine E f fn) (hE : Good E) {N : Nat} {args : List V} (hn : args.length ≤ E.n) (hl : args.length ≤ fn.params.size) {h : H} {v : V} {h' : H}
    (he : evF E N fn args h = some (v, h')) : Triple E.P f args h v h' :=
  evF_triple hE hF.func hF.ntmps hF.calm hn (fun i hi => by
    have := hF.lp
    rw [List.all_eq_true] at this
    simpa using this i (by simp; omega)) he

theorem pureOf_good {E : Env} {f : FuncId} {fn : Func} (hF : Fine E f fn) (hE : Good E) {N : Nat} {vs : List V} {v : V} (hl : vs.length ≤ fn.params.size) (h : pureOf E N fn vs = some v) :
    Callable E.P f ∧ ∀ h, Triple E.P f vs h v h := by
  unfold pureOf at h
  split at h
  · rename_i u h' he
    split at h
    · rename_i hc
      simp only [Bool.and_eq_true] at hc
      cases h
      exact ⟨hF.callable, Triple.closed (hF.triple hE (Nat.le_of_ble_eq_true hc.2) hl he) hc.1.1 hc.1.2⟩
    · cases h
  · cases h

end Go.L
