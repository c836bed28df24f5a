/- A run that starts from no memory of its own is good in any memory. -/
import Derived.Test.YtkhnngghmlpbeaaGreatL30
namespace Go.L
noncomputable section

mutual
/-- A value that names no memory. -/
def V.scal : V → Bool
  | .ptr .. | .sl .. | .map _ | .rptr _ | .rs _ _ => false
  | .fn _ cs | .agg cs | .tup cs => V.scals cs
  | _ => true
def V.scals : List V → Bool
  | [] => true
  | v :: r => v.scal && V.scals r
end

theorem scals_get : ∀ {cs : List V} {i : Nat} {v : V}, V.scals cs = true → cs[i]? = some v → v.scal = true
  | [], i, v, _, h => by simp at h
  | c :: cs, i, v, hs, h => by
    simp only [V.scals, Bool.and_eq_true] at hs
    cases i with
    | zero => simp at h; subst h; exact hs.1
    | succ i => simp at h; exact scals_get hs.2 h

theorem RelV.scal {ρ ρ' : Ren} {v : V} {x : Value} (h : RelV ρ v x) (hs : v.scal = true) : RelV ρ' v x := by
  induction h with
  | bool b => exact .bool b
  | int k n => exact .int k n
  | float k b => exact .float k b
  | cplx k a b => exact .cplx k a b
  | str s => exact .str s
  | nilp => exact .nilp
  | ptr => simp [V.scal] at hs
  | rptr => simp [V.scal] at hs
  | nils => exact .nils
  | sl => simp [V.scal] at hs
  | rs0 => simp [V.scal] at hs
  | rs => simp [V.scal] at hs
  | nilm => exact .nilm
  | map => simp [V.scal] at hs
  | nilf => exact .nilf
  | fn f cs xs h1 h2 ih => exact .fn f cs xs h1 fun i v x hv hx => ih i v x hv hx (scals_get (by simpa [V.scal] using hs) hv)
  | agg cs xs h1 h2 h3 ih => exact .agg cs xs h1 (fun i v x hv hx => ih i v x hv hx (scals_get (by simpa [V.scal] using hs) hv)) h3
  | tup cs xs h1 h2 ih => exact .tup cs xs h1 fun i v x hv hx => ih i v x hv hx (scals_get (by simpa [V.scal] using hs) hv)

/-- All there is, to be read alone. -/
def Ren.all (w : World) : Ren := ⟨0, fun _ => 0, fun _ => none, fun b => w.heap[b]?⟩

theorem relH_all (w : World) : RelH (Ren.all w) [] w :=
  ⟨rfl, (fun id o h => by simp at h), (fun id g h => by cases h), (fun i j g g' h => by cases h), (fun b ob h => h), (fun i g h => by cases h), (fun id h => by simp at h)⟩

/-- What was there is there. -/
theorem step_all {ρ' : Ren} {w w' : World} {h' : H} (hs : Step (Ren.all w) nol w ρ' nol w') (hh : RelH ρ' h' w') {b : Nat} (hb : b < w.heap.size) : w'.heap[b]? = w.heap[b]? := by
  have h1 : (Ren.all w).ro b = some w.heap[b] := Array.getElem?_eq_getElem hb
  rw [hh.ro b _ (hs.le.ro b _ h1), Array.getElem?_eq_getElem hb]

theorem Triple.closed {P : Program} {f : FuncId} {args : List V} {v : V} {h' : H} (ht : Triple P f args [] v h') (hg : V.scals args = true) (hv : v.scal = true) (h : H) : Triple P f args h v h := by
  intro ρ w xs hrel hsz hargs
  refine (ht (Ren.all w) w xs (relH_all w) hsz fun i a x ha hx => (hargs i a x ha hx).scal (scals_get hg ha)).mono fun e w' he => ?_
  obtain ⟨ρ', x, rfl, hh, hs, hx⟩ := he
  have hold : ∀ b, b < w.heap.size → w'.heap[b]? = w.heap[b]? := fun b hb => step_all hs hh hb
  refine ⟨ρ, x, rfl, ⟨hrel.n, hrel.live, fun id g hg => ?_, hrel.inj, fun b ob hb => ?_, hrel.sep, hrel.rsv⟩, ⟨.refl ρ, hs.still, hs.size, fun b hb h1 h2 => ⟨hold b hb, h1, h2, rfl⟩⟩, hx.scal hv⟩
  · obtain ⟨o, ob, h1, h2, h3⟩ := hrel.obj id g hg
    exact ⟨o, ob, h1, by rw [hold _ (hrel.blk_lt hg)]; exact h2, h3⟩
  · rw [hold _ (hrel.ro_lt hb)]; exact hrel.ro b ob hb

structure Fine (E : Env) (N : Nat) (f : FuncId) (fn : Func) (ks rs : List SK) (F : Tup ks H → Option (Tup rs H)) : Prop where
  func : E.P.funcs[f]? = some fn
  name : (fn.name == "runtime.NumGoroutine") = false
  body : fn.body.isNone = false
  ntmps : fn.ntmps = E.n
  loops : ∀ c, fn.body = some c → LGood E N c
  lp : (List.range ks.length).all (fun i => (E.lpT i).isNone) = true
  args : Nat.ble ks.length E.n = true
  link : ∀ t, F t = evFT E N fn ks rs t

variable {E : Env} {N : Nat} {f : FuncId} {fn : Func} {ks rs : List SK} {F : Tup ks H → Option (Tup rs H)}

theorem Fine.callable (h : Fine E N f fn ks rs F) : Callable E.P f := ⟨fn, h.func, h.name, h.body⟩

theorem decVs_length : ∀ (ks : List SK) {E : Type} (t : Tup ks E), (decVs ks t).1.length = ks.length
  | [], _, t => rfl
  | k :: r, _, t => by simp only [decVs, List.length_cons, decVs_length r]

theorem Fine.triple (hF : Fine E N f fn ks rs F) (hE : Good E) {t : Tup ks H} {s : Tup rs H} (he : F t = some s) : Triple E.P f (decVs ks t).1 (decVs ks t).2 (outR rs s).1 (outR rs s).2 :=
  evFT_triple hE hF.func hF.ntmps hF.loops (by rw [decVs_length]; exact Nat.le_of_ble_eq_true hF.args) (fun i hi => by
    have := hF.lp
    rw [List.all_eq_true] at this
    rw [decVs_length] at hi
    simpa using this i (by simpa using hi)) (by rw [← hF.link]; exact he)

theorem mkFun_good (hF : Fine E N f fn ks rs F) (hE : Good E) (vs : List V) (h : H) (s : Tup rs H) (he : (mkFun ks rs F).F vs h = some s) :
    Callable E.P f ∧ Triple E.P f vs h ((mkFun ks rs F).out s).1 ((mkFun ks rs F).out s).2 := by
  obtain ⟨t, ht, he⟩ := Option.bind_eq_some_iff.1 he
  obtain ⟨y, hy, hd⟩ := encVs_law ks vs _ t ht
  cases hy
  have := hF.triple hE he
  rw [hd] at this
  exact ⟨hF.callable, this⟩

/-- A function that leaves all that was there. -/
theorem mkFun_gro (hF : Fine E N f fn ks rs F) (hE : Good E) (hg : ∀ t s, F t = some s → Grows (decVs ks t).2 (outR rs s).2) (vs : List V) (h : H) (s : Tup rs H) (he : (mkFun ks rs F).F vs h = some s) :
    (Callable E.P f ∧ Triple E.P f vs h ((mkFun ks rs F).out s).1 ((mkFun ks rs F).out s).2) ∧ Grows h ((mkFun ks rs F).out s).2 := by
  refine ⟨mkFun_good hF hE vs h s he, ?_⟩
  obtain ⟨t, ht, he⟩ := Option.bind_eq_some_iff.1 he
  obtain ⟨y, hy, hd⟩ := encVs_law ks vs _ t ht
  cases hy
  have := hg t s he
  rw [hd] at this
  exact this

theorem mkFun_own (hF : Fine E N f fn ks rs F) (hE : Good E) (hg : ∀ t s, F t = some s → Owns (decVs ks t).1 (decVs ks t).2 (outR rs s).2) (vs : List V) (h : H) (s : Tup rs H) (he : (mkFun ks rs F).F vs h = some s) :
    (Callable E.P f ∧ Triple E.P f vs h ((mkFun ks rs F).out s).1 ((mkFun ks rs F).out s).2) ∧ Owns vs h ((mkFun ks rs F).out s).2 := by
  refine ⟨mkFun_good hF hE vs h s he, ?_⟩
  obtain ⟨t, ht, he⟩ := Option.bind_eq_some_iff.1 he
  obtain ⟨y, hy, hd⟩ := encVs_law ks vs _ t ht
  cases hy
  have := hg t s he
  rw [hd] at this
  exact this

def LK.scal : LK → Bool
  | .ref => false
  | _ => true

def SK.scal : SK → Bool
  | .one l => l.scal
  | .agg ls => ls.all LK.scal
  | .blk => false
  | .clo _ _ => false
  | .lp _ _ => false

theorem toV_scal : ∀ (l : LK) (x : l.T), l.scal = true → (l.toV x).scal = true
  | .int _, _, _ => rfl
  | .bool, _, _ => rfl
  | .str, _, _ => rfl
  | .float _, _, _ => rfl
  | .cplx _, _, _ => rfl
  | .ref, _, h => by cases h

theorem decLs_scal : ∀ (ls : List LK) {E : Type} (t : TupL ls E), ls.all LK.scal = true → V.scals (decLs ls t).1 = true
  | [], _, t, _ => rfl
  | l :: r, _, t, h => by
    simp only [List.all_cons, Bool.and_eq_true] at h
    simp only [decLs, V.scals, Bool.and_eq_true]
    exact ⟨toV_scal l _ h.1, decLs_scal r _ h.2⟩

theorem decV_scal : ∀ (k : SK) {E : Type} (t : k.T E), k.scal = true → (k.decV t).1.scal = true
  | .one l, _, t, h => toV_scal l _ h
  | .agg ls, _, t, h => by simp only [SK.decV, V.scal]; exact decLs_scal ls _ h
  | .blk, _, t, h => by cases h
  | .clo _ _, _, t, h => by cases h
  | .lp _ _, _, t, h => by cases h

theorem decVs_scal : ∀ (ks : List SK) {E : Type} (t : Tup ks E), ks.all SK.scal = true → V.scals (decVs ks t).1 = true
  | [], _, t, _ => rfl
  | k :: r, _, t, h => by
    simp only [List.all_cons, Bool.and_eq_true] at h
    simp only [decVs, V.scals, Bool.and_eq_true]
    exact ⟨decV_scal k _ h.1, decVs_scal r _ h.2⟩

theorem outR_scal (rs : List SK) (s : Tup rs H) (h : rs.all SK.scal = true) : (outR rs s).1.scal = true := by
  have := decVs_scal rs s h
  unfold outR
  simp only
  split
  · rename_i v hv
    rw [hv] at this
    simpa [V.scals] using this
  · simpa [V.scal] using this

theorem mkP_good (hF : Fine E N f fn ks rs F) (hE : Good E) (hk : ks.all SK.scal = true) (hr : rs.all SK.scal = true) (vs : List V) (s : Tup rs H) (he : (mkP ks rs F).F vs = some s) :
    Callable E.P f ∧ ∀ h, Triple E.P f vs h ((mkP ks rs F).out s) h := by
  obtain ⟨t, ht, he⟩ := Option.bind_eq_some_iff.1 he
  obtain ⟨y, hy, hd⟩ := encVs_law ks vs _ t ht
  cases hy
  have := hF.triple hE he
  rw [hd] at this
  refine ⟨hF.callable, Triple.closed this ?_ (outR_scal rs s hr)⟩
  have := decVs_scal ks t hk
  rw [hd] at this
  exact this

/-- A function that leaves memory as it is. -/
theorem mkFun_ro (hF : Fine E N f fn ks rs F) (hE : Good E) (hq : (fn.body.map (quietC E)).getD false = true) (vs : List V) (h : H) (s : Tup rs H) (he : (mkFun ks rs F).F vs h = some s) :
    Callable E.P f ∧ Triple E.P f vs h ((mkFun ks rs F).out s).1 h := by
  obtain ⟨h1, h2⟩ := mkFun_good hF hE vs h s he
  refine ⟨h1, ?_⟩
  have : ((mkFun ks rs F).out s).2 = h := by
    obtain ⟨t, ht, he⟩ := Option.bind_eq_some_iff.1 he
    obtain ⟨y, hy, hd⟩ := encVs_law ks vs _ t ht
    cases hy
    rw [hF.link] at he
    unfold evFT at he
    cases hb : fn.body with
    | none => rw [hb] at he; cases he
    | some c =>
      rw [hb] at he hq
      have hlp : LpOk E ⟨argSlots 0 (decVs ks t).1, [], (decVs ks t).2⟩ := fun i => by
        show lpOk E i (lk (argSlots 0 (decVs ks t).1) i) = true
        rw [lk_argSlots]
        simp only [Nat.zero_le, if_true, Nat.sub_zero]
        split
        · rename_i u hu
          have hi : i < (decVs ks t).1.length := by
            rcases Nat.lt_or_ge i (decVs ks t).1.length with h | h
            · exact h
            · rw [List.getElem?_eq_none h] at hu; cases hu
          have hlp' : E.lpT i = none := by
            have := hF.lp
            rw [List.all_eq_true] at this
            rw [decVs_length] at hi
            simpa using this i (by simpa using hi)
          simp only [lpOk, hlp']
        · rfl
      obtain ⟨x, st', k1, k2, _⟩ := ev_quiet c N (hF.loops c hb) (by simpa using hq) he hlp
      have fine : (resVs E st' fn.results.toList fun vs => encVs rs vs (some st'.h)) = some s → (outR rs s).2 = h := by
        intro hk
        obtain ⟨vs, hk1, hk2⟩ := resVs_thru E st' _ _ _ _ hk
        obtain ⟨y0, hy0, hd0⟩ := encVs_law rs vs _ s hk1
        cases hy0
        unfold outR
        rw [hd0]
        show st'.h = h
        rw [k2]
        show (decVs ks t).2 = h
        rw [hd]
      cases x with
      | normal => exact fine k1
      | ret => exact fine k1
      | exit i => cases k1
      | goto i => cases k1
  rw [this] at h2
  exact h2

end
end Go.L
