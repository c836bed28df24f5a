/- Operations: what we play is what the machine does (the rest). -/
import Derived.Test.YtkhnngghmlpbeaaGreatL7
namespace Go.L
noncomputable section

/-- What a call comes to, in every world that stands to h. -/
def Triple (P : Program) (f : FuncId) (args : List V) (h : H) (v : V) (h' : H) : Prop :=
  ∀ (ρ : Ren) (w : World) (xs : Array Value), RelH ρ h w → xs.size = args.length → (∀ (i : Nat) (a : V) (x : Value), args[i]? = some a → xs[i]? = some x → RelV ρ a x) →
    Calls P f xs w fun e w' => ∃ ρ' x, e = .returned x ∧ RelH ρ' h' w' ∧ Step ρ nol w ρ' nol w' ∧ RelV ρ' v x

def Callable (P : Program) (f : FuncId) : Prop :=
  ∃ fn, P.funcs[f]? = some fn ∧ (fn.name == "runtime.NumGoroutine") = false ∧ fn.body.isNone = false

/-- A callee that is none of the text's own. -/
def ExtOk (P : Program) (f : FuncId) (vs : List V) (v : V) : Prop :=
  ∀ (ρ : Ren) (w : World) (xs : Array Value), xs.size = vs.length → (∀ (i : Nat) (a : V) (x : Value), vs[i]? = some a → xs[i]? = some x → RelV ρ a x) →
    ∃ y, (callFunc f xs).run P w = .ok (.value y) w ∧ RelV ρ v y

/-- What was there stays. -/
def Grows (h h' : H) : Prop := h.length ≤ h'.length ∧ ∀ i, i < h.length → h'[i]? = h[i]?

def ptrId : V → Option Nat
  | .ptr id _ _ => some id
  | _ => none

/-- All that was there stays, but for the object of the first argument. -/
def Owns (vs : List V) (h h' : H) : Prop := ∀ i, i < h.length → vs.head?.bind ptrId ≠ some i → h'[i]? = h[i]?

def CalOk (P : Program) (f : FuncId) (c : Cal) : Prop :=
  match c with
  | .pure F => ∀ vs s, F.F vs = some s → Callable P f ∧ ∀ h, Triple P f vs h (F.out s) h
  | .ext F => ∀ vs s, F.F vs = some s → ExtOk P f vs (F.out s)
  | .ro F => ∀ vs h s, F.F vs h = some s → Callable P f ∧ Triple P f vs h (F.out s).1 h
  | .full F => ∀ vs h s, F.F vs h = some s → Callable P f ∧ Triple P f vs h (F.out s).1 (F.out s).2
  | .gro F => ∀ vs h s, F.F vs h = some s → (Callable P f ∧ Triple P f vs h (F.out s).1 (F.out s).2) ∧ Grows h (F.out s).2
  | .own F => ∀ vs h s, F.F vs h = some s → (Callable P f ∧ Triple P f vs h (F.out s).1 (F.out s).2) ∧ Owns vs h (F.out s).2
  | .dyn F => ∀ x vs h s, F.F (x :: vs) h = some s → ∃ g cap, x = .fn g cap ∧ Callable P g ∧ Triple P g (vs ++ cap) h (F.out s).1 (F.out s).2

structure Good (E : Env) : Prop where
  cal : ∀ f c, E.cal f = some c → CalOk E.P f c

theorem rdLs_mono {R : Type} {g g' : Nat → Option V} (hg : ∀ i v, g i = some v → g' i = some v) : ∀ {ls : List LK} {i : Nat} {K : List V → Option R} {r : R}, rdLs ls g i K = some r → rdLs ls g' i K = some r
  | [], i, K, r, h => h
  | l :: ls, i, K, r, h => by
    simp only [rdLs] at h ⊢
    obtain ⟨v, hv, _⟩ := dest_inv h
    rw [hg i v hv, ← hv]
    cases l <;> simp only [LK.dest, hv, Option.bind_eq_some_iff, Option.bind_some] at h ⊢
    all_goals first
      | (obtain ⟨x, hx, h⟩ := h; exact ⟨x, hx, rdLs_mono hg h⟩)
      | exact rdLs_mono hg h

section ops
variable {R : Type} {E : Env} {o : Oper} {st : St} {K : St → Option R} {r : R} {ρ : Ren} {lo : Nat → Option Nat} {a : Act} {w : World}
  {next : Act → World → Prop} {Q : Exit → Act → World → Prop}

theorem opnd_v (hr : RelA E.n ρ lo st a w) {c : Operand} {v : V} (hc : st.opnd c = .v v) : RelV ρ v (a.eval c) := by
  have := opnd_rel hr c
  rw [hc] at this
  exact this

theorem finV_sound {v : V} (he : finV E o st K v = some r) (hr : RelA E.n ρ lo st a w) (hn : Owes E o st ρ lo w K r next) {y : Value}
    (hrun : (execOp a.eval o).run E.P w = .ok (.value y) w) (hx : RelV ρ v y) : o.wp E.P a w next Q := still_sound (x := .v v) he hr hn hrun hx

theorem load_sound {t : TypeId} {x : Operand} (ho : o.op = .load t x) (he : evOp E o st K = some r) (hr : RelA E.n ρ lo st a w) (hn : Owes E o st ρ lo w K r next) :
    o.wp E.P a w next Q := by
  unfold evOp at he
  simp only [ho] at he
  have go : (match tyOf E.P 2 t with
      | .leaf l => l.dest (st.get (st.opnd x) 0) (finV E o st K)
      | .strt ls => rdLs ls (st.get (st.opnd x)) 0 fun cs => finV E o st K (.agg cs)
      | .blk n => (st.getN (st.opnd x) n).bind fun cs => finV E o st K (.agg cs)
      | _ => none) = some r → o.wp E.P a w next Q := by
    intro he
    obtain ⟨v, y, hrun, hv, hk⟩ := load_run (K' := finV E o st K) hr (opnd_rel hr x) (r := r) (t := t) he
    exact finV_sound hk hr hn (by unfold execOp; simp [ho, hrun]) hv
  split at he
  · exact go he
  · split at he
    case h_2 => cases he
    rename_i p hp
    have hg : ∀ i v, rdRo p i = some v → st.get (st.opnd x) i = some v := by
      intro i v hv
      have h1 : rd st.h p i = some v := by
        unfold rdRo at hv
        split at hv
        · exact hv
        · cases hv
      unfold plOf at hp
      split at hp
      · rename_i q hq; cases hp; rw [hq]; exact h1
      · rename_i q hq; cases hp; rw [hq]; exact h1
      · cases hp
    split at he
    · rename_i l hl
      obtain ⟨v, hv, _⟩ := dest_inv he
      refine go ?_
      rw [hl]
      simp only
      rw [hg 0 v hv, ← hv]; exact he
    · rename_i ls hl
      refine go ?_
      rw [hl]
      exact rdLs_mono hg he
    · cases he

theorem cellsAs_inv {P : Program} {d : Nat} {t : TypeId} {x : V} {y : Value} (hx : RelV ρ x y) {K' : List V → Option R} (he : cellsAs (tyOf P d t) x K' = some r) :
    ∃ xs, RelL ρ xs y.cells.toList ∧ xs.length = P.cellsOf t ∧ K' xs = some r ∧ P.cellsOf t ≠ 0 ∧ ∃ u, P.underlying t = some u := by
  obtain ⟨c1, c2, c3⟩ := tyOf_cases P d t
  unfold cellsAs at he
  split at he
  · rename_i l hl
    obtain ⟨u, hu, hag, hsz⟩ := c1 l hl
    simp only [Option.bind_eq_some_iff] at he
    obtain ⟨_, hck, he⟩ := he
    refine ⟨[x], ?_, by simp [hsz], he, by omega, u, hu⟩
    have : y.cells = #[y] ∧ y.oneCell' = true := by
      cases hx <;> first | exact ⟨rfl, rfl⟩ | (simp [ck1] at hck)
    rw [this.1]
    refine ⟨rfl, fun i v z hv hz => ?_⟩
    cases i with
    | zero => simp at hv hz; subst hv; subst hz; exact ⟨hx, this.2⟩
    | succ i => simp at hv
  · rename_i ls hl
    obtain ⟨u, hu, hag, hsz, hpos⟩ := c2 ls hl
    split at he
    · rename_i cs
      split at he
      · rename_i hlen
        obtain ⟨ys, rfl, hys⟩ := agg_inv hx
        exact ⟨cs, by simpa [Value.cells] using hys, by omega, he, hpos, u, hu⟩
      · cases he
    · cases he
  · rename_i n hl
    obtain ⟨u, hu, hag, hsz, hpos⟩ := c3 n hl
    split at he
    · rename_i cs
      split at he
      · rename_i hlen
        obtain ⟨ys, rfl, hys⟩ := agg_inv hx
        exact ⟨cs, by simpa [Value.cells] using hys, by omega, he, hpos, u, hu⟩
      · cases he
    · cases he
  · cases he

theorem store_sound {t : TypeId} {p x : Operand} (ho : o.op = .store t p x) (he : evOp E o st K = some r) (hr : RelA E.n ρ lo st a w) (hn : Owes E o st ρ lo w K r next) :
    o.wp E.P a w next Q := by
  unfold evOp at he
  simp only [ho] at he
  split at he
  · rename_i x' hx
    obtain ⟨xs, hl, hlen, he, hpos, u, hu⟩ := cellsAs_inv (opnd_v hr hx) he
    obtain ⟨ad, w', l', h', hp, hrun, he, hr', hs⟩ := put_sound E.P hr (opnd_rel hr p) hl he
    refine upon_skip (w' := w') ?_ (fin_sound he hr' (v := undef) trivial hs hn (by simp [quietL, ho]))
    have hsz : (a.eval x).cells.size = E.P.cellsOf t := by rw [← hlen, hl.1]; simp
    unfold execOp
    simp only [ho, Instr.storeAt, hp, Instr.sureAddr, pure_bind, storeVar, Sem.run_bind, run_sizeOf' hu, Result.andThen_ok]
    rw [if_neg (by simp [hsz]), hrun]
    rfl
  · cases he

theorem nck_inv {p : V} {y : Value} (h : RelV ρ p y) {u : Unit} (hn : nck p = some u) : ∃ ad, y = .pointer (some ad) := by
  cases h <;> first | exact ⟨_, rfl⟩ | (simp [nck] at hn)

theorem nilCheck_sound {x : Operand} (ho : o.op = .nilCheck x) (he : evOp E o st K = some r) (hr : RelA E.n ρ lo st a w) (hn : Owes E o st ρ lo w K r next) :
    o.wp E.P a w next Q := by
  unfold evOp at he
  simp only [ho] at he
  have hx := opnd_rel hr x
  have main : ∀ ad, a.eval x = .pointer (some ad) → (execOp a.eval o).run E.P w = .ok (.value (a.eval x)) w := by
    intro ad h
    unfold execOp
    simp [ho, h]
  split at he
  · rename_i t off hc
    rw [hc] at hx
    obtain ⟨b, hb, hv⟩ := hx
    exact still_sound he hr hn (main _ hv) (v := a.eval x) ⟨b, hb, hv⟩
  · rename_i p hc
    rw [hc] at hx
    simp only [Option.bind_eq_some_iff] at he
    obtain ⟨_, hck, he⟩ := he
    obtain ⟨ad, hv⟩ := nck_inv hx hck
    exact still_sound he hr hn (main _ hv) (v := a.eval x) ⟨hx, ad, hv⟩
  · rename_i p hc
    rw [hc] at hx
    obtain ⟨h1, ad, hv⟩ := hx
    exact still_sound he hr hn (main _ hv) (v := a.eval x) ⟨h1, ad, hv⟩
  · cases he

/-- An address, some places on. -/
theorem padd_rel {p : V} {ad : Addr} (h : RelV ρ p (.pointer (some ad))) (d : Nat) : RelV ρ (padd p d) (.pointer (some (ad.add d))) := by
  cases h with
  | ptr id ver off _ h1 h2 h3 =>
    refine .ptr id ver (off + d) _ h1 h2 fun g hv hg => ?_
    rw [h3 g hv hg, add_none, Nat.add_assoc]
  | rptr cs b off c e fr h1 h2 h3 h4 =>
    rw [add_none]
    refine .rptr (cs.drop d) b (off + d) c e fr h1 (fun i hi => ?_) (fun i v x hv hx => ?_) (fun i x hi hx => ?_)
    · simp at hi
      have := h2 (d + i) (by omega)
      omega
    · rw [List.getElem?_drop] at hv
      exact h3 (d + i) v x hv (by rw [← hx]; congr 1; omega)
    · simp at hi
      exact h4 (d + i) x (by omega) (by rw [← hx]; congr 1; omega)

theorem info_of_cells {P : Program} {t : TypeId} (h : P.cellsOf t ≠ 0) : ∃ i, P.info? t = some i := by
  unfold Program.cellsOf at h
  cases hi : P.info? t with
  | none => rw [hi] at h; exact absurd rfl h
  | some i => exact ⟨i, rfl⟩

theorem run_fieldPlace {P : Program} {f : Field} (h : P.cellsOf f.type ≠ 0) (ad : Addr) (w : World) : (fieldPlace ad f).run P w = .ok (ad.add f.offset) w := by
  obtain ⟨i, hi⟩ := info_of_cells h
  simp [fieldPlace, run_sizeOf hi, h]

theorem fieldAddr_sound {t : TypeId} {x : Operand} {i : Nat} (ho : o.op = .fieldAddr t x i) (he : evOp E o st K = some r) (hr : RelA E.n ρ lo st a w) (hn : Owes E o st ρ lo w K r next) :
    o.wp E.P a w next Q := by
  unfold evOp at he
  simp only [ho] at he
  split at he
  · rename_i fs hu
    split at he
    · rename_i f hf
      split at he
      · cases he
      · rename_i hc0
        have main : ∀ ad, a.eval x = .pointer (some ad) → (execOp a.eval o).run E.P w = .ok (.value (.pointer (some (ad.add f.offset)))) w := by
          intro ad h
          unfold execOp
          simp [ho, h, Instr.fieldAt, run_underlying hu, hf, Instr.sureAddr, run_fieldPlace hc0]
        have hx := opnd_rel hr x
        split at he
        · rename_i t' off hc
          rw [hc] at hx
          obtain ⟨b, hb, hv⟩ := hx
          refine still_sound he hr hn (main _ hv) ⟨b, hb, ?_⟩
          rw [add_none]
        · rename_i p hc
          rw [hc] at hx
          simp only [Option.bind_eq_some_iff] at he
          obtain ⟨_, hck, he⟩ := he
          obtain ⟨ad, hv⟩ := nck_inv hx hck
          refine still_sound he hr hn (main _ hv) ⟨?_, _, rfl⟩
          exact padd_rel (by rw [← hv]; exact hx) _
        · rename_i p hc
          rw [hc] at hx
          obtain ⟨h1, ad, hv⟩ := hx
          refine still_sound he hr hn (main _ hv) ⟨?_, _, rfl⟩
          exact padd_rel (by rw [← hv]; exact h1) _
        · cases he
    · cases he
  · cases he

theorem unOp_sound {op : UnOp} {t : TypeId} {x : Operand} (ho : o.op = .unOp op t x) (he : evOp E o st K = some r) (hr : RelA E.n ρ lo st a w) (hn : Owes E o st ρ lo w K r next) :
    o.wp E.P a w next Q := by
  unfold evOp at he
  simp only [ho] at he
  split at he
  · rename_i v hc
    have hx := opnd_v hr hc
    unfold unS at he
    split at he
    · rename_i b
      generalize hy : a.eval x = y at hx
      cases hx
      exact finV_sound he hr hn (y := .bool (!b)) (by unfold execOp; simp [ho, hy, Op.unary]) (.bool _)
    · rename_i k n
      generalize hy : a.eval x = y at hx
      cases hx
      exact finV_sound he hr hn (y := .int k (k.wrap (0 - n))) (by unfold execOp; simp [ho, hy, Op.unary, Op.intArith]) (.int _ _)
    · rename_i k n
      generalize hy : a.eval x = y at hx
      cases hx
      exact finV_sound he hr hn (y := .float k (Op.negFloat k n)) (by unfold execOp; simp [ho, hy, Op.unary]) (.float _ _)
    · rename_i k n
      generalize hy : a.eval x = y at hx
      cases hx
      refine finV_sound he hr hn (y := .int k _) ?_ (.int _ _)
      unfold execOp; simp [ho, hy, Op.unary, Op.intBits]
    · cases he
  · cases he

theorem extract_sound {x : Operand} {i : Nat} (ho : o.op = .extract x i) (he : evOp E o st K = some r) (hr : RelA E.n ρ lo st a w) (hn : Owes E o st ρ lo w K r next) :
    o.wp E.P a w next Q := by
  unfold evOp at he
  simp only [ho] at he
  split at he
  · rename_i vs hc
    have hx := opnd_v hr hc
    split at he
    · rename_i v hv
      generalize hy : a.eval x = y at hx
      cases hx with
      | tup _ xs h1 h2 =>
        have hlt : i < xs.size := by rw [h1]; exact (List.getElem?_eq_some_iff.1 hv).1
        have hi := Array.getElem?_eq_getElem hlt
        exact finV_sound he hr hn (y := xs[i]) (by unfold execOp; simp [ho, hy, Instr.extract, hi]) (h2 i v _ hv hi)
    · cases he
  · cases he

end ops
end
end Go.L
