/- Operations: calls; every operation. -/
import Derived.Test.YtbpibiapjangmaaL19
namespace Go.L

section ops
variable {R : Type} {E : Env} {o : Oper} {st : St} {K : St → Option R} {r : R} {ρ : Ren} {lo : Nat → Option Nat} {a : Act} {w : World}
  {next : Act → World → Prop} {Q : Exit → Act → World → Prop}

theorem finF_sound {es : Nat} (hes : es ≠ 0) {v : V} {h : H} (he : finF E o st K es v h = some r) {ρ' : Ren} {w' : World} {y : Value} (hr : RelA E.n ρ' lo ⟨st.s, st.l, h⟩ a w') (hx : RelV ρ' v y)
    (hs : Step ρ lo w ρ' lo w') (hn : Owes E o st ρ lo w K r next) : next (a.put o.dst y) w' := by
  unfold finF at he
  split at he
  · simp only [Option.bind_eq_some_iff] at he
    obtain ⟨q, hq, he⟩ := he
    obtain ⟨ρ2, h1, h2, h3⟩ := hfreeze_rel hr.h hx (h' := q.2) (v := q.1) hq hes
    obtain ⟨g1, g2⟩ := hr.lift h1 h2
    exact fin_sound he g1 (x := .v q.1) h3 (hs.trans g2) hn
  · exact fin_sound he hr (x := .v v) hx hs hn

theorem appendOp_sound {c : Call} (ho : o.op = .call c) (hc : c.callee = .builtin .append) {s x : V} {sv xv : Value} (hargs : c.args.map a.eval = #[sv, xv]) (hs : RelV ρ s sv) (hx : RelV ρ x xv)
    (he : evBuiltin E o .append c.argTypes [s, x] st K = some r) (hr : RelA E.n ρ lo st a w) (hn : Owes E o st ρ lo w K r next) : o.wp E.P a w next Q := by
  simp only [evBuiltin] at he
  split at he
  · rename_i e e' h1 h2
    simp only [Option.bind_eq_some_iff] at h1 h2
    obtain ⟨sT, hsT, h1⟩ := h1
    obtain ⟨xT, hxT, h2⟩ := h2
    have hu := elemOf_inv h1
    split at he
    · rename_i hcc
      split at he
      · cases he
      · rename_i hne
        split at he
        · rename_i hbytes
          split at he
          · rename_i hz
            simp only [Option.bind_eq_some_iff] at he
            obtain ⟨cs, hcs, q, hq, he⟩ := he
            simp only [Option.map_eq_some_iff] at hz
            obtain ⟨z, hz0, hzl⟩ := hz
            obtain ⟨i, zv, hi, hzv, hzc⟩ := zeroCells_inv hz0
            have hzs : zv.cells.size = E.P.cellsOf e := by
              rw [← hzl, (cstVs_relL ρ hzc).1]; simp
            obtain ⟨y, w', ρ', hrun, g1, g2, g3⟩ := happ_rel (ty := o.type) hu h2 hi hzv hzs hne hbytes hr hs hx hcs (v := q.1) (h' := q.2) hq
            refine upon_of (builtin_run ho hc fun cs => ?_) (finF_sound hne he g1 g3 g2 hn)
            rw [hargs]
            have e1 : Builtin.append_ c.argTypes o.type #[sv, xv] = Builtin.append_ #[sT, xT] o.type #[sv, xv] := by
              simp only [Builtin.append_, hsT, hxT]
              rfl
            simp only [builtin, e1, Sem.run_bind, hrun, Result.andThen_ok, Sem.run_pure]
          · cases he
        · cases he
    · cases he
  · cases he

theorem callFunc_run {P : Program} {f : FuncId} (h : Callable P f) (args : Array Value) : (callFunc f args).run P w = .ok (.enter f args) w := by
  obtain ⟨fn, h1, h2, h3⟩ := h
  simp only [callFunc, Sem.run_bind, run_program, Result.andThen_ok, h1, h2, Bool.false_eq_true, if_false, h3, Sem.run_pure]

/-- A call whose triple is known. -/
theorem call_sound {f : FuncId} {vs : List V} {xs : Array Value} {v : V} {h' : H} (ht : Triple E.P f vs st.h v h') (hsz : xs.size = vs.length) (hrel : ∀ (i : Nat) (u : V) (x : Value), vs[i]? = some u → xs[i]? = some x → RelV ρ u x)
    (hrun : (execOp a.eval o).run E.P w = .ok (.enter f xs) w) (hr : RelA E.n ρ lo st a w)
    (hfin : ∀ (ρ' : Ren) (w' : World) (y : Value), RelA E.n ρ' lo ⟨st.s, st.l, h'⟩ a w' → Step ρ lo w ρ' lo w' → RelV ρ' v y → next (a.put o.dst y) w') : o.wp E.P a w next Q := by
  unfold Oper.wp
  rw [hrun]
  refine Calls.mono (ht ρ w xs hr.h hsz hrel) fun e w' hpost => ?_
  obtain ⟨ρ', y, rfl, h1, h2, h3⟩ := hpost
  obtain ⟨g1, g2⟩ := hr.lift h1 h2
  exact hfin ρ' w' y g1 g2 h3

theorem callOp_sound (hE : Good E) {c : Call} (ho : o.op = .call c) (he : evOp E o st K = some r) (hr : RelA E.n ρ lo st a w) (hn : Owes E o st ρ lo w K r next) : o.wp E.P a w next Q := by
  unfold evOp at he
  simp only [ho] at he
  split at he
  · rename_i f hc
    obtain ⟨vs, h1, h2, he⟩ := argsK_inv hr he
    obtain ⟨h3, h4⟩ := args_rel h1 h2
    have run : Callable E.P f → (execOp a.eval o).run E.P w = .ok (.enter f (c.args.map a.eval)) w := by
      intro hcall
      unfold execOp
      simp only [ho, resolve, hc, Act.eval, Deferred.ofValue, pure_bind, invoke]
      rw [show (#[] ++ c.args.map a.eval ++ #[] : Array Value) = c.args.map a.eval from by simp]
      exact callFunc_run hcall _
    split at he
    · rename_i F hF
      simp only [Option.bind_eq_some_iff] at he
      obtain ⟨v, hv, he⟩ := he
      obtain ⟨hcall, ht⟩ := hE.pure f F hF vs v hv
      obtain ⟨v', hv', he⟩ := tyDest_inv he
      cases hv'
      exact call_sound (ht st.h) h3 h4 (run hcall) hr fun ρ' w' y g1 g2 g3 => fin_sound he g1 (x := .v _) g3 g2 hn
    · split at he
      case h_2 => cases he
      rename_i F hF
      simp only [Option.bind_eq_some_iff] at he
      obtain ⟨q, hq, he⟩ := he
      obtain ⟨hcall, ht⟩ := hE.tc f F hF vs st.h q hq
      obtain ⟨v', hv', he⟩ := tyDest_inv he
      cases hv'
      refine call_sound ht h3 h4 (run hcall) hr fun ρ' w' y g1 g2 g3 => ?_
      split at he
      · rename_i e _ hel
        split at he
        · exact finF_sound (by assumption) he g1 g3 g2 hn
        · cases he
      · cases he
      · exact fin_sound he g1 (x := .v _) g3 g2 hn
  · rename_i t hc
    split at he
    · rename_i p hp
      obtain ⟨vs, h1, h2, he⟩ := argsK_inv hr he
      obtain ⟨h3, h4⟩ := args_rel h1 h2
      simp only [Option.bind_eq_some_iff] at he
      obtain ⟨q, hq, he2⟩ := he
      obtain ⟨v', hv', he3⟩ := tyDest_inv he2
      cases hv'
      obtain ⟨f, cap, hpf, hcall, ht⟩ := hE.tcv p vs st.h q.1 q.2 hq
      subst hpf
      have hfv : RelV ρ (.fn f cap) (a.eval (.tmp t)) := by
        have := hr.s t
        rw [hp] at this
        exact this
      generalize hfx : a.eval (.tmp t) = fx at hfv
      cases hfv with
      | fn _ _ xs k1 k2 =>
        refine call_sound (xs := c.args.map a.eval ++ xs) ht (by rw [Array.size_append, h3, k1, List.length_append]) (fun i u x hu hx => ?_) ?_ hr fun ρ' w' y g1 g2 g3 => fin_sound he3 g1 (x := .v _) g3 g2 hn
        · by_cases hi : i < vs.length
          · rw [List.getElem?_append_left hi] at hu
            rw [Array.getElem?_append_left (by rw [h3]; exact hi)] at hx
            exact h4 i u x hu hx
          · rw [List.getElem?_append_right (by omega)] at hu
            rw [Array.getElem?_append_right (by rw [h3]; omega), h3] at hx
            exact k2 _ u x hu hx
        · unfold execOp
          simp only [ho, resolve, hc, hfx, Deferred.ofValue, pure_bind, invoke]
          rw [show (#[] ++ c.args.map a.eval ++ xs : Array Value) = c.args.map a.eval ++ xs from by simp]
          exact callFunc_run hcall _
    · cases he
  · rename_i b hc
    obtain ⟨vs, h1, h2, he⟩ := argsK_inv hr he
    by_cases hb : b = .min ∨ b = .max ∨ b = .real ∨ b = .imag ∨ b = .complex
    · exact small_sound ho hc h1 h2 hb he hr hn
    · have two : ∀ p q, vs = [p, q] → ∃ y z, c.args.map a.eval = #[y, z] ∧ RelV ρ p y ∧ RelV ρ q z := fun p q e => by subst e; exact args2 h1 h2
      have one : ∀ p, vs = [p] → ∃ y, c.args.map a.eval = #[y] ∧ RelV ρ p y := fun p e => by subst e; exact args1 h1 h2
      cases b <;> first
        | (exfalso; apply hb; simp; done)
        | skip
      case len =>
        match vs, he, one with
        | [p], he, one => obtain ⟨y, g1, g2⟩ := one p rfl; exact len_sound ho hc g1 g2 he hr hn
        | [], he, _ => simp [evBuiltin] at he
        | _ :: _ :: _, he, _ => simp [evBuiltin] at he
      case append =>
        match vs, he, two with
        | [p, q], he, two => obtain ⟨y, z, g1, g2, g3⟩ := two p q rfl; exact appendOp_sound ho hc g1 g2 g3 he hr hn
        | [], he, _ => simp [evBuiltin] at he
        | [_], he, _ => simp [evBuiltin] at he
        | _ :: _ :: _ :: _, he, _ => simp [evBuiltin] at he
      case delete =>
        match vs, he, two with
        | [p, q], he, two => obtain ⟨y, z, g1, g2, g3⟩ := two p q rfl; exact delete_sound ho hc g1 g2 g3 he hr hn
        | [], he, _ => simp [evBuiltin] at he
        | [_], he, _ => simp [evBuiltin] at he
        | _ :: _ :: _ :: _, he, _ => simp [evBuiltin] at he
      all_goals (exfalso; revert he; cases vs <;> simp [evBuiltin])
  · cases he

theorem evOp_sound (hE : Good E) (he : evOp E o st K = some r) (hr : RelA E.n ρ lo st a w) (hn : Owes E o st ρ lo w K r next) : o.wp E.P a w next Q := by
  cases ho : o.op with
  | move x => exact move_sound (.inl ho) (by unfold evOp at he; simpa only [ho] using he) hr hn
  | assign x => exact move_sound (.inr ho) (by unfold evOp at he; simpa only [ho] using he) hr hn
  | pick c x y => exact pick_sound ho he hr hn
  | alloc t => exact alloc_sound ho he hr hn
  | box t x => exact box_sound ho he hr hn
  | build t ps => exact build_sound ho he hr hn
  | buildSlice t l ps => exact buildSlice_sound ho he hr hn
  | load t x => exact load_sound ho he hr hn
  | store t x y => exact store_sound ho he hr hn
  | nilCheck x => exact nilCheck_sound ho he hr hn
  | binOp op t x y t' => exact binOp_sound ho he hr hn
  | unOp op t x => exact unOp_sound ho he hr hn
  | convert s t x => exact conv_sound ho he hr hn
  | makeFunc f fs cs =>
    cases f with
    | func f => exact makeFunc_sound ho he hr hn
    | _ => unfold evOp at he; simp only [ho] at he; cases he
  | makeMap t x =>
    cases x with
    | none => exact makeMap_sound ho he hr hn
    | some x => unfold evOp at he; simp only [ho] at he; cases he
  | makeSlice t l c => exact makeSlice_sound ho he hr hn
  | slice t x l u m => exact sliceOp_sound ho he hr hn
  | fieldAddr t x i => exact fieldAddr_sound ho he hr hn
  | field t x i => exact field_sound ho he hr hn
  | indexAddr t x i => exact indexAddr_sound ho he hr hn
  | index t x i => exact index_sound ho he hr hn
  | lookup t x i ok => exact lookup_sound ho he hr hn
  | mapUpdate t m k v => exact mapUpdate_sound ho he hr hn
  | extract x i => exact extract_sound ho he hr hn
  | call c => exact callOp_sound hE ho he hr hn
  | _ => unfold evOp at he; simp only [ho] at he; cases he

end ops
end Go.L
