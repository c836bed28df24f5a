/- A law's row, behind what its call comes to. -/
import Derived.Test.YtkhnngghmlpbeaaGreatL33
import Derived.WalkKit
import Derived.ProofKit
import Derived.ChangeCalls
import Derived.OpenShut
namespace Go.L
noncomputable section
open Go Go.ChangeShapes Go.RowKit

theorem okWide_true {P : Program} {W' : World} {t : TypeId} (ht : P.underlying t = some .bool) (b : Bool) : Value.okWide P W' .any 0 t (.bool b) := okWide_bool_mk ht b

/-- What a law's row asks of its call. -/
theorem row_callsU {K : Type} {enc : TypeId × Value → K} {P : Program} {f : FuncId} {fn : Func} {s : ChangeSpec} {apart fresh handsOn again' : Bool} {n : Nat} {tb : TypeId} (hl : laidOutB P = true) (hm : mapsRowed P = true)
    (hz : ((List.range P.types.size).all fun t => match P.underlying t with | some (.slice e) => decide (0 < P.cellsOf e) | _ => true) = true)
    (hres : fn.resultTypes = #[tb]) (hb : P.underlying tb = some .bool) (hts : fn.params.toList.all (argT P n) = true)
    (hspec : ∀ ds : List (DataW K), ds.length = fn.params.size → (s.fn K ds).results = [.lit (.bool true)] ∧ (s.fn K ds).args = ds ∧ (s.fn K ds).vars = []) (hvars : s.vars = [])
    {W : World} {base : Nat} {args : Array Value} {ds gs : List (DataW K)} {before : List MemPlace}
    (hval : ∀ (j : Nat) t v, fn.params[j]? = some t → args[j]? = some v → Value.okWide P W .any base t v) (hW : DataW.Whole enc P fn.params.toList s.vars apart W args.toList ds gs before)
    (main : ∀ as, dataA P n fn.params.toList as → (∀ mu : DataW K → Nat, MuOk mu → V.szs as ≤ (ds.map mu).sum) → ∃ h', Triple P f as [] (.bool true) h') :
    Calls P f args W fun e W' => ∃ v, e = .returned v ∧ s.post enc P fn apart fresh handsOn again' W args v W' := by
  have hK := kids_rows hl hm
  have hW' := hW
  obtain ⟨p, q, hA, hV, rfl, hfz, hnd⟩ := hW
  rw [hvars] at hV
  obtain ⟨rfl, rfl⟩ := trodVars_none hV
  have hlen := Go.trodAll_length hA
  obtain ⟨as, h1, h2, h3, h4⟩ := open_args hK (n := n) hts (fun j t v a b => hval j t v (by simpa using a) (by simpa using b)) hA
  obtain ⟨h', ht⟩ := main as h2 h4
  refine (law_calls ht W args (by simpa using h1) (fun i a x ha hx => h3 i a x ha (by simpa using hx))).mono fun e W' he => ?_
  obtain ⟨rfl, hg, hold⟩ := he
  have hsp := hspec ds (by simpa using hlen.2)
  refine ⟨_, rfl, post_of_same (pa := p) (pv := []) hW' (fun _ _ _ => ?_) (fun sp hs => ?_) (fun _ _ => ?_) rfl (hg.frame _) hg.2.1 (ok_one hres rfl (okWide_bool_mk hb _))⟩
  · rw [List.append_nil, hsp.1, hres]
    exact trodAll_cons_mk (shut_bool hb _) trodAll_mk0
  · rw [List.append_nil, hsp.2.1]
    refine again hK (fun t e ht hu => slices_full_of P hz t e ht hu) hold (fun t ht => ?_) hA (fun x hx => hW'.lt x (by simpa using hx)) sp (fun x hx => hs x (by simpa using hx))
    have := List.all_eq_true.1 hts t ht
    simp only [argT, Bool.and_eq_true, decide_eq_true_eq] at this
    exact this.1.2
  · rw [List.append_nil, hsp.2.2, hvars]
    rfl

theorem row_calls {K : Type} {enc : TypeId × Value → K} {P : Program} {f : FuncId} {fn : Func} {s : ChangeSpec} {apart fresh handsOn again' : Bool} {n : Nat} {tb : TypeId} (hl : laidOutB P = true) (hm : mapsRowed P = true)
    (hz : ((List.range P.types.size).all fun t => match P.underlying t with | some (.slice e) => decide (0 < P.cellsOf e) | _ => true) = true)
    (hres : fn.resultTypes = #[tb]) (hb : P.underlying tb = some .bool) (hts : fn.params.toList.all (argT P n) = true)
    (hspec : ∀ ds : List (DataW K), ds.length = fn.params.size → (s.fn K ds).results = [.lit (.bool true)] ∧ (s.fn K ds).args = ds ∧ (s.fn K ds).vars = []) (hvars : s.vars = [])
    {W : World} {base : Nat} {args : Array Value} {ds gs : List (DataW K)} {before : List MemPlace}
    (hval : ∀ (j : Nat) t v, fn.params[j]? = some t → args[j]? = some v → Value.okWide P W .any base t v) (hW : DataW.Whole enc P fn.params.toList s.vars apart W args.toList ds gs before)
    (main : ∀ as, dataA P n fn.params.toList as → ∃ h', Triple P f as [] (.bool true) h') :
    Calls P f args W fun e W' => ∃ v, e = .returned v ∧ s.post enc P fn apart fresh handsOn again' W args v W' :=
  row_callsU hl hm hz hres hb hts hspec hvars hval hW fun as h _ => main as h

end
end Go.L
